/- BandProblems: for every input the call returns true, and each argument reads afterwards as it read before. No conditions. -/
import Derived.Test.YtpdhelhngdeoeaaRows
import Derived.Test.YtpdhelhngdeoeaaOpen17
import Derived.Test.YtpdhelhngdeoeaaKn26
import Derived.Test.YtpdhelhngdeoeaaVd17
import Derived.Test.YtpdhelhngdeoeaaSl17
import Derived.Test.YtpdhelhngdeoeaaFw26
import Derived.Test.YtpdhelhngdeoeaaRw26
import Derived.Test.YtpdhelhngdeoeaaPp26
import Derived.Test.YtpdhelhngdeoeaaLexA
import Derived.Deep.DeepCutAuto
import Derived.Deep.CutBlock
namespace Go.Proofs.Ytpdhelhngdeoeaa
open Go.RowKit Go.ChangeShapes Go.WideShapes Go.ChangeAt Go.Deep

theorem own : ownKnob Try.prog.godebug = none := by kernel_rfl
theorem laidOut : laidOutB Try.prog = true := by kernel_rfl

theorem val_iff (t : Int) : (atF t < 0) ↔ vldT t = false := (at_vld t).symm

/-! a store into a box of slices leaves a row that begins with a number -/
theorem blk_cell {W : World} {g t : Nat} {s : List Value} (h : Blk W g t s) (k : Nat) : W.cell? ⟨g, k, none⟩ = s[k]? := by
  simp [World.cell?, show W.heap[g]? = _ from h]
def Slices (s : List Value) : Prop := ∀ (k : Nat) (v : Value), s[k]? = some v → ∃ a l c, v = .slice a l c
theorem cell_other {W : World} {b g : Nat} (hne : b ≠ g) (o i : Nat) (u : Value) : (W.setCell ⟨g, i, none⟩ u).cell? ⟨b, o, none⟩ = W.cell? ⟨b, o, none⟩ := by
  have h := Below.heap_setCell W ⟨g, i, none⟩ u b (fun e => hne e)
  unfold World.cell?
  dsimp only
  rw [h]
theorem rowS_set {α : Type} {sz : Nat} {f : α → Nat → Value} {W : World} {D : Nat} {A : Option Addr} {n : Nat} {xs : List α} (h : RowS sz f W D A n xs) (hsz : 0 < sz) (hf : ∀ x, ∃ z, f x 0 = .int .i64 z) {g t : Nat} {s : List Value} (hb : Blk W g t s) (hs : Slices s) (i : Nat) (u : Value) : RowS sz f (W.setCell ⟨g, i, none⟩ u) D A n xs := by
  refine ⟨h.1, fun hn => ?_⟩
  obtain ⟨b, off, hA, hbl, hc⟩ := h.2 hn
  obtain ⟨x, hx⟩ : ∃ x, xs[0]? = some x := ⟨_, List.getElem?_eq_getElem (by have := h.1; omega)⟩
  have h0 := hc 0 x hx 0 hsz
  have hne : b ≠ g := by
    rintro rfl
    obtain ⟨z, hz⟩ := hf x
    rw [blk_cell hb, hz] at h0
    obtain ⟨a, l, c, hv⟩ := hs _ _ h0
    cases hv
  exact ⟨b, off, hA, hbl, fun k y hy j hj => (cell_other hne _ i u).trans (hc k y hy j hj)⟩
theorem row1_set {W : World} {D : Nat} {A : Option Addr} {n : Nat} {xs : List Int} (h : Row1 intV W D A n xs) {g t : Nat} {s : List Value} (hb : Blk W g t s) (hs : Slices s) (i : Nat) (u : Value) : Row1 intV (W.setCell ⟨g, i, none⟩ u) D A n xs := by
  refine ⟨h.1, fun hn => ?_⟩
  obtain ⟨b, off, hA, hbl, hc⟩ := h.2 hn
  obtain ⟨x, hx⟩ : ∃ x, xs[0]? = some x := ⟨_, List.getElem?_eq_getElem (by have := h.1; omega)⟩
  have h0 := hc 0 x hx
  have hne : b ≠ g := by
    rintro rfl
    rw [blk_cell hb] at h0
    obtain ⟨a, l, c, hv⟩ := hs _ _ h0
    cases hv
  exact ⟨b, off, hA, hbl, fun k y hy => (cell_other hne _ i u).trans (hc k y hy)⟩
theorem PrbAt.set {W : World} {D : Nat} {s : PrbS} {ds : List Dom} {r : Rul} (h : PrbAt W D s ds r) {g t : Nat} {l : List Value} (hb : Blk W g t l) (hs : Slices l) (i : Nat) (u : Value) : PrbAt (W.setCell ⟨g, i, none⟩ u) D s ds r :=
  ⟨⟨rowS_set h.1.1 (by decide) (fun x => ⟨_, rfl⟩) hb hs i u, fun d hd => row1_set (h.1.2 d hd) hb hs i u⟩, rowS_set h.2.1 (by decide) (fun x => ⟨_, rfl⟩) hb hs i u, rowS_set h.2.2.1 (by decide) (fun x => ⟨_, rfl⟩) hb hs i u, rowS_set h.2.2.2.1 (by decide) (fun x => ⟨_, rfl⟩) hb hs i u, h.2.2.2.2⟩
theorem PrbAt.keep {W W' : World} {s : PrbS} {ds : List Dom} {r : Rul} (h : PrbAt W W.heap.size s ds r) (hb : Below W.heap.size W W') : PrbAt W' W'.heap.size s ds r := ⟨h.1.keep hb, h.2.keep hb⟩
theorem PrbAt.up {W : World} {D D' : Nat} {s : PrbS} {ds : List Dom} {r : Rul} (h : PrbAt W D s ds r) (hD : D ≤ D') : PrbAt W D' s ds r := ⟨h.1.up hD, h.2.up hD⟩
theorem slices4 (a b c d : Option Addr) (n1 k1 n2 k2 n3 k3 n4 k4 : Nat) : Slices [.slice a n1 k1, .slice b n2 k2, .slice c n3 k3, .slice d n4 k4] := by
  intro k v h
  match k, h with
  | 0, h => simp at h; exact ⟨_, _, _, h.symm⟩
  | 1, h => simp at h; exact ⟨_, _, _, h.symm⟩
  | 2, h => simp at h; exact ⟨_, _, _, h.symm⟩
  | 3, h => simp at h; exact ⟨_, _, _, h.symm⟩
  | k + 4, h => simp at h
def ss4 (s : PrbS) : List Value := [.slice s.ad s.nd s.cd, .slice s.rs.a0 s.rs.n0 s.rs.c0, .slice s.rs.a1 s.rs.n1 s.rs.c1, .slice s.rs.a2 s.rs.n2 s.rs.c2]
/-- a problem is stored into a box of its own -/
theorem prb_store {W : World} {g : Nat} {s : PrbS} {ds : List Dom} {r : Rul} (h : PrbAt W W.heap.size s ds r) (hb : Blk W g 57 [.slice none 0 0, .slice none 0 0, .slice none 0 0, .slice none 0 0]) {W1 : World} (hB : Below W1.heap.size W1 W) (hg : W1.heap.size ≤ g) :
    Blk ((((W.setCell ⟨g, 0, none⟩ (.slice s.ad s.nd s.cd)).setCell ⟨g, 1, none⟩ (.slice s.rs.a0 s.rs.n0 s.rs.c0)).setCell ⟨g, 2, none⟩ (.slice s.rs.a1 s.rs.n1 s.rs.c1)).setCell ⟨g, 3, none⟩ (.slice s.rs.a2 s.rs.n2 s.rs.c2)) g 57 (ss4 s) ∧
    PrbAt ((((W.setCell ⟨g, 0, none⟩ (.slice s.ad s.nd s.cd)).setCell ⟨g, 1, none⟩ (.slice s.rs.a0 s.rs.n0 s.rs.c0)).setCell ⟨g, 2, none⟩ (.slice s.rs.a1 s.rs.n1 s.rs.c1)).setCell ⟨g, 3, none⟩ (.slice s.rs.a2 s.rs.n2 s.rs.c2)) W.heap.size s ds r ∧
    Below W1.heap.size W1 ((((W.setCell ⟨g, 0, none⟩ (.slice s.ad s.nd s.cd)).setCell ⟨g, 1, none⟩ (.slice s.rs.a0 s.rs.n0 s.rs.c0)).setCell ⟨g, 2, none⟩ (.slice s.rs.a1 s.rs.n1 s.rs.c1)).setCell ⟨g, 3, none⟩ (.slice s.rs.a2 s.rs.n2 s.rs.c2)) := by
  have b1 := hb.set_ 0 (.slice s.ad s.nd s.cd)
  have b2 := b1.set_ 1 (.slice s.rs.a0 s.rs.n0 s.rs.c0)
  have b3 := b2.set_ 2 (.slice s.rs.a1 s.rs.n1 s.rs.c1)
  have b4 := b3.set_ 3 (.slice s.rs.a2 s.rs.n2 s.rs.c2)
  refine ⟨b4, (((h.set hb (slices4 _ _ _ _ _ _ _ _ _ _ _ _) 0 _).set b1 (slices4 _ _ _ _ _ _ _ _ _ _ _ _) 1 _).set b2 (slices4 _ _ _ _ _ _ _ _ _ _ _ _) 2 _).set b3 (slices4 _ _ _ _ _ _ _ _ _ _ _ _) 3 _, ?_⟩
  exact (((hB.setCell (p := ⟨g, 0, none⟩) hg _).setCell (p := ⟨g, 1, none⟩) hg _).setCell (p := ⟨g, 2, none⟩) hg _).setCell (p := ⟨g, 3, none⟩) hg _

set_option maxRecDepth 100000 in
set_option maxHeartbeats 4000000 in
theorem bandProblems_walk (w : World) (A : Option Addr) (n c : Nat) (ds : List Dom) (R0 : DomsAt w w.heap.size A n ds ∧ n ≤ 9223372036854775807) (s : RulS) (r : Rul) (R1 : RulAt w w.heap.size s r) (t : Int) (_ : I64 t) :
    Calls Try.prog 6 #[.slice A n c, s.val, .int .i64 t] w fun e w' => e = .returned (.bool true) ∧ Below w.heap.size w w' := by
  obtain ⟨A0, n0, c0, A1, n1, c1, A2, n2, c2⟩ := s
  obtain ⟨W0, hW0⟩ : ∃ W0, W0 = w.alloc (.cells #[.slice A0 n0 c0, .slice A1 n1 c1, .slice A2 n2 c2] 52) := ⟨_, rfl⟩
  have HB0 : Hid (Below w.heap.size w W0) := Lib.hid (by rw [hW0]; exact (Below.refl _ w).alloc (Nat.le_refl _) _)
  have hX : Blk W0 w.heap.size 52 [.slice A0 n0 c0, .slice A1 n1 c1, .slice A2 n2 c2] := by rw [hW0]; exact blk_new w _ _
  have HX := Lib.hid hX
  have HD := Lib.hid (R0.1.keep HB0.out)
  have HR := Lib.hid (R1.keep HB0.out)
  have HBW : Hid (∀ W, Below W0.heap.size W0 W → Below w.heap.size w W) := Lib.hid (fun W hb => HB0.out.trans (hb.mono HB0.out.size))
  have HK := Lib.hid (fun W => known_any W)
  have HTO := Lib.hid (fun n w => to_any n w)
  have HAT := Lib.hid (fun W => at_any t W)
  have HFW : Hid (Calls Try.prog 22 #[.slice A n c, .int .i64 12] W0 fun e w' => e = .returned (.bool (fewF ds)) ∧ W0 = w') := Lib.hid (few_any A n c W0 ds R0.2 HD.out)
  have HSM : Hid (Calls Try.prog 23 #[.agg #[.slice none 0 0, .slice A0 n0 c0, .slice A1 n1 c1, .slice A2 n2 c2], .int .i64 0, .int .i64 40] W0 (RetPost (.bool (smF [] r 0 40)) W0.heap.size W0)) := Lib.hid (small_any ⟨none, 0, 0, ⟨A0, n0, c0, A1, n1, c1, A2, n2, c2⟩⟩ 0 40 W0 [] r (Nat.zero_le _) ⟨⟨RowS.nil _ _ _ _ _, fun d h => by cases h⟩, HR.out⟩)
  have q0 : W0.cell? ⟨w.heap.size, 0, none⟩ = some (.slice A0 n0 c0) := hX.cell rfl
  have q1 : W0.cell? ⟨w.heap.size, 1, none⟩ = some (.slice A1 n1 c1) := hX.cell rfl
  have q2 : W0.cell? ⟨w.heap.size, 2, none⟩ = some (.slice A2 n2 c2) := hX.cell rfl
  have q4 := hX.lt
  have B0 := Lib.hid (Below.refl W0.heap.size W0)
  unfold RulS.val
  dsimp only
  clear R0 R1 hX
  go_enter Try.func6, Try.ntmps6
  go_wp2_with fail
  rw [← hW0]
  clear hW0
  refine HFW.out.mono ?_
  rintro e wz ⟨rfl, rfl⟩
  cases hfew : fewF ds with
  | false =>
    go_wp2_with fail
    refine (HK.out _).mono ?_
    rintro e W1 ⟨rfl, hb1⟩
    have HB1 := Lib.hid hb1
    clear hb1
    go_wp2_with fail
    go_ret
    exact ⟨rfl, HBW.out _ HB1.out⟩
  | true =>
    obtain ⟨f1, f2⟩ := fewF_spec hfew
    have HF1 := Lib.hid f1
    have HF2 := Lib.hid f2
    clear hfew f1 f2
    go_wp2_with fail
    refine HSM.out.mono ?_
    rintro e W1 ⟨rfl, hb1⟩
    have HB1 := Lib.hid hb1
    cases hsm : smF [] r 0 40 with
    | false =>
      clear hb1 q0 q1 q2
      go_wp2_with fail
      refine (HK.out _).mono ?_
      rintro e W2 ⟨rfl, hb2⟩
      have HB2 := Lib.hid (HB1.out.trans (hb2.mono HB1.out.size))
      clear hb2
      go_wp2_with fail
      go_ret
      exact ⟨rfl, HBW.out _ HB2.out⟩
    | true =>
      obtain ⟨_, _, m0, m1, m2⟩ := smF_spec (by decide) hsm
      have HM : Hid (r.pairs.length ≤ 4096 ∧ r.loads.length ≤ 1024 ∧ r.caps.length ≤ 1024) := Lib.hid ⟨by omega, by omega, by omega⟩
      have hx1 := HX.out.keep hb1
      have z0 : W1.cell? ⟨w.heap.size, 0, none⟩ = some (.slice A0 n0 c0) := hx1.cell rfl
      have z1 : W1.cell? ⟨w.heap.size, 1, none⟩ = some (.slice A1 n1 c1) := hx1.cell rfl
      have z2 : W1.cell? ⟨w.heap.size, 2, none⟩ = some (.slice A2 n2 c2) := hx1.cell rfl
      have z4 := hx1.lt
      have HC1 : Hid (∀ X, Below W1.heap.size W1 X → X.cell? ⟨w.heap.size, 0, none⟩ = some (.slice A0 n0 c0) ∧ X.cell? ⟨w.heap.size, 1, none⟩ = some (.slice A1 n1 c1) ∧ X.cell? ⟨w.heap.size, 2, none⟩ = some (.slice A2 n2 c2)) := Lib.hid (fun X h => ⟨(hx1.keep h).cell rfl, (hx1.keep h).cell rfl, (hx1.keep h).cell rfl⟩)
      have hdr : Below W1.heap.size W1 W1.drew := (Below.refl _ _).drew
      have HDR := Lib.hid hdr
      have HPR : Hid (∀ W, Below W1.heap.size W1 W → Calls Try.prog 24 #[.slice A n c, .agg #[.slice A0 n0 c0, .slice A1 n1 c1, .slice A2 n2 c2], .agg #[.int .i64 t]] W (PrbPost (probF ds r t) W)) := Lib.hid (fun W hW => problem_any A n c ⟨A0, n0, c0, A1, n1, c1, A2, n2, c2⟩ t W ds r (by have := HF1.out; have := HD.out.1.1; omega) (fun d hd => Nat.le_trans (HF2.out d hd) (by omega)) ((HD.out.keep hb1).keep hW) ((HR.out.keep hb1).keep hW))
      have hbb1 := hb1
      clear hsm m0 m1 m2 hx1 hdr q0 q1 q2
      have HDA : Hid (Below W1.heap.size W1 (W1.alloc (.cells #[.slice none 0 0, .slice none 0 0, .slice none 0 0, .slice none 0 0] 57)).drew) := Lib.hid ((Below.refl _ W1).alloc (Nat.le_refl _) _).drew
      go_upto_region 3 with fail
      go_cut [7, 8] from 19 (fun s7 s8 wx => ∃ (g : Nat) (s' : PrbS) (es : List Dom), s7 = .pointer (some ⟨g, 0, none⟩) ∧ s8 = .int .i64 (probF ds r t).2 ∧ Blk wx g 57 (ss4 s') ∧ PrbAt wx wx.heap.size s' es (probF ds r t).1.2 ∧ es.map Dom.say = (probF ds r t).1.1 ∧ Below W1.heap.size W1 wx)
      case first =>
        refine Lx.regionA (C := fun X => X.cell? ⟨w.heap.size, 0, none⟩ = some (.slice A0 n0 c0) ∧ X.cell? ⟨w.heap.size, 1, none⟩ = some (.slice A1 n1 c1) ∧ X.cell? ⟨w.heap.size, 2, none⟩ = some (.slice A2 n2 c2)) (hs := [1]) (.op 0 (.op 1 (.op 2 (.alt (.op 3 (.alt (.op 4 (.op 5 (.op 6 (.op 7 (.op 8 (.op 9 (.op 10 .done))))))) (.op 8 (.op 4 (.op 5 (.op 6 (.op 7 (.op 9 (.op 10 .done))))))))) (.op 8 (.op 3 (.op 4 (.op 5 (.op 6 (.op 7 (.op 9 (.op 10 .done)))))))))))) (by kernel_rfl) (by kernel_rfl) (HC1.out _ HDR.out) ?_
        dsimp only [Lx.numbT, List.getElem?_cons_zero, List.getElem?_cons_succ]
        repeat' (first
          | (refine Lx.lexO_no (Lx.n1 rfl rfl rfl (by with_reducible rfl)) (fun K hK => ?_); go_simp; refine hK _ ?_; clear hK K)
          | (refine Lx.lexO_no (Lx.n0 rfl rfl rfl (by with_reducible rfl)) (fun K hK => ?_); go_simp; refine hK _ ?_; clear hK K)
          | (refine Lx.lexO_no (Lx.n2 rfl rfl rfl) (fun K hK => ?_); go_simp; refine hK _ ?_; clear hK K)
          | (refine Lx.lexO_pure (v := ?_) rfl (by first | exact Lx.w0 rfl | exact Lx.w1 rfl rfl rfl (by with_reducible rfl)) ?_ (fun K hK => ?_); rotate_left 1; (intro w' hCw; (try dsimp only at hCw); go_simp; done); go_simp; refine hK _ ?_; clear hK K)
          | (refine Lx.lexO_pure (v := ?_) rfl (by first | exact Lx.w0 rfl | exact Lx.w1 rfl rfl rfl (by with_reducible rfl)) ?_ (fun K hK => ?_); rotate_left 1; (intro w' hCw; (try dsimp only at hCw); go_simp; with_reducible rfl); go_simp; refine hK _ ?_; clear hK K)
          | (refine Lx.lexO_read (v := ?_) rfl (by first | exact Lx.w0 rfl | exact Lx.w1 rfl rfl rfl (by with_reducible rfl)) ?_ (fun K hK => ?_); rotate_left 1; (go_simp; done); go_simp; refine hK _ ?_; clear hK K)
          | (refine Lx.lexO_read (v := ?_) rfl (by first | exact Lx.w0 rfl | exact Lx.w1 rfl rfl rfl (by with_reducible rfl)) ?_ (fun K hK => ?_); rotate_left 1; (go_simp; with_reducible rfl); go_simp; refine hK _ ?_; clear hK K)
          | (refine Lx.lexO_eff rfl (by first | exact Lx.w0 rfl | exact Lx.w1 rfl rfl rfl (by with_reducible rfl)) (fun K hK => ?_); go_simp; (first | fail | skip); refine hK _ _ (by first | exact HC1.out _ hbs4 | exact HC1.out _ hbs2 | exact HC1.out _ hbb2 | exact HC1.out _ hba2 | exact HC1.out _ hba1 | exact HC1.out _ (HDA.out)) ?_; clear hK K))
        refine Lx.lexO_alt ?_ ?_
        · skip
          repeat' (first
            | (refine Lx.lexO_no (Lx.n1 rfl rfl rfl (by with_reducible rfl)) (fun K hK => ?_); go_simp; refine hK _ ?_; clear hK K)
            | (refine Lx.lexO_no (Lx.n0 rfl rfl rfl (by with_reducible rfl)) (fun K hK => ?_); go_simp; refine hK _ ?_; clear hK K)
            | (refine Lx.lexO_no (Lx.n2 rfl rfl rfl) (fun K hK => ?_); go_simp; refine hK _ ?_; clear hK K)
            | (refine Lx.lexO_pure (v := ?_) rfl (by first | exact Lx.w0 rfl | exact Lx.w1 rfl rfl rfl (by with_reducible rfl)) ?_ (fun K hK => ?_); rotate_left 1; (intro w' hCw; (try dsimp only at hCw); go_simp; done); go_simp; refine hK _ ?_; clear hK K)
            | (refine Lx.lexO_pure (v := ?_) rfl (by first | exact Lx.w0 rfl | exact Lx.w1 rfl rfl rfl (by with_reducible rfl)) ?_ (fun K hK => ?_); rotate_left 1; (intro w' hCw; (try dsimp only at hCw); go_simp; with_reducible rfl); go_simp; refine hK _ ?_; clear hK K)
            | (refine Lx.lexO_read (v := ?_) rfl (by first | exact Lx.w0 rfl | exact Lx.w1 rfl rfl rfl (by with_reducible rfl)) ?_ (fun K hK => ?_); rotate_left 1; (go_simp; done); go_simp; refine hK _ ?_; clear hK K)
            | (refine Lx.lexO_read (v := ?_) rfl (by first | exact Lx.w0 rfl | exact Lx.w1 rfl rfl rfl (by with_reducible rfl)) ?_ (fun K hK => ?_); rotate_left 1; (go_simp; with_reducible rfl); go_simp; refine hK _ ?_; clear hK K)
            | (refine Lx.lexO_eff rfl (by first | exact Lx.w0 rfl | exact Lx.w1 rfl rfl rfl (by with_reducible rfl)) (fun K hK => ?_); go_simp; (first | (go_at_call 12; refine (HTO.out _ _).mono ?_; rintro e Wa ⟨rfl, hba⟩; have hba1 : Below W1.heap.size W1 Wa := HDR.out.trans (hba.mono HDR.out.size)) | skip); refine hK _ _ (by first | exact HC1.out _ hbs4 | exact HC1.out _ hbs2 | exact HC1.out _ hbb2 | exact HC1.out _ hba2 | exact HC1.out _ hba1 | exact HC1.out _ (HDA.out)) ?_; clear hK K))
          refine Lx.lexO_alt ?_ ?_
          · skip
            repeat' (first
              | (refine Lx.lexO_no (Lx.n1 rfl rfl rfl (by with_reducible rfl)) (fun K hK => ?_); go_simp; refine hK _ ?_; clear hK K)
              | (refine Lx.lexO_no (Lx.n0 rfl rfl rfl (by with_reducible rfl)) (fun K hK => ?_); go_simp; refine hK _ ?_; clear hK K)
              | (refine Lx.lexO_no (Lx.n2 rfl rfl rfl) (fun K hK => ?_); go_simp; refine hK _ ?_; clear hK K)
              | (refine Lx.lexO_pure (v := ?_) rfl (by first | exact Lx.w0 rfl | exact Lx.w1 rfl rfl rfl (by with_reducible rfl)) ?_ (fun K hK => ?_); rotate_left 1; (intro w' hCw; (try dsimp only at hCw); go_simp; done); go_simp; refine hK _ ?_; clear hK K)
              | (refine Lx.lexO_pure (v := ?_) rfl (by first | exact Lx.w0 rfl | exact Lx.w1 rfl rfl rfl (by with_reducible rfl)) ?_ (fun K hK => ?_); rotate_left 1; (intro w' hCw; (try dsimp only at hCw); go_simp; with_reducible rfl); go_simp; refine hK _ ?_; clear hK K)
              | (refine Lx.lexO_read (v := ?_) rfl (by first | exact Lx.w0 rfl | exact Lx.w1 rfl rfl rfl (by with_reducible rfl)) ?_ (fun K hK => ?_); rotate_left 1; (go_simp; done); go_simp; refine hK _ ?_; clear hK K)
              | (refine Lx.lexO_read (v := ?_) rfl (by first | exact Lx.w0 rfl | exact Lx.w1 rfl rfl rfl (by with_reducible rfl)) ?_ (fun K hK => ?_); rotate_left 1; (go_simp; with_reducible rfl); go_simp; refine hK _ ?_; clear hK K)
              | (refine Lx.lexO_eff rfl (by first | exact Lx.w0 rfl | exact Lx.w1 rfl rfl rfl (by with_reducible rfl)) (fun K hK => ?_); go_simp; (first | (go_at_call 24; refine (HPR.out _ (hba1)).mono ?_; rintro e Wb ⟨⟨pa, pn, pc, ⟨B0', m0, d0, B1', m1, d1, B2', m2, d2⟩⟩, es, rfl, hat, hsay, hbb⟩; have hbb2 : Below W1.heap.size W1 Wb := hba1.trans (hbb.mono hba1.size); have hbs2 : Below W1.heap.size W1 (Wb.alloc (.cells #[.slice none 0 0, .slice none 0 0, .slice none 0 0, .slice none 0 0] 57)) := hbb2.alloc hbb2.size _; have hbs4 : Below W1.heap.size W1 (Wb.alloc (.cells #[.slice pa pn pc, .slice B0' m0 d0, .slice B1' m1 d1, .slice B2' m2 d2] 57)) := hbb2.alloc hbb2.size _; unfold PrbS.val; dsimp only) | skip | skip); refine hK _ _ (by first | exact HC1.out _ hbs4 | exact HC1.out _ hbs2 | exact HC1.out _ hbb2 | exact HC1.out _ hba2 | exact HC1.out _ hba1 | exact HC1.out _ (HDA.out)) ?_; clear hK K))
            all_goals (refine Lx.lexO_done ?_)
            go_wp2_with fail
            go_meet
            exact ⟨_, ⟨pa, pn, pc, ⟨B0', m0, d0, B1', m1, d1, B2', m2, d2⟩⟩, es, rfl, rfl, blk_new _ _ _, hat.keep ((Below.refl _ _).alloc (Nat.le_refl _) _), hsay, hbs4⟩
          · skip
            repeat' (first
              | (refine Lx.lexO_no (Lx.n1 rfl rfl rfl (by with_reducible rfl)) (fun K hK => ?_); go_simp; refine hK _ ?_; clear hK K)
              | (refine Lx.lexO_no (Lx.n0 rfl rfl rfl (by with_reducible rfl)) (fun K hK => ?_); go_simp; refine hK _ ?_; clear hK K)
              | (refine Lx.lexO_no (Lx.n2 rfl rfl rfl) (fun K hK => ?_); go_simp; refine hK _ ?_; clear hK K)
              | (refine Lx.lexO_pure (v := ?_) rfl (by first | exact Lx.w0 rfl | exact Lx.w1 rfl rfl rfl (by with_reducible rfl)) ?_ (fun K hK => ?_); rotate_left 1; (intro w' hCw; (try dsimp only at hCw); go_simp; done); go_simp; refine hK _ ?_; clear hK K)
              | (refine Lx.lexO_pure (v := ?_) rfl (by first | exact Lx.w0 rfl | exact Lx.w1 rfl rfl rfl (by with_reducible rfl)) ?_ (fun K hK => ?_); rotate_left 1; (intro w' hCw; (try dsimp only at hCw); go_simp; with_reducible rfl); go_simp; refine hK _ ?_; clear hK K)
              | (refine Lx.lexO_read (v := ?_) rfl (by first | exact Lx.w0 rfl | exact Lx.w1 rfl rfl rfl (by with_reducible rfl)) ?_ (fun K hK => ?_); rotate_left 1; (go_simp; done); go_simp; refine hK _ ?_; clear hK K)
              | (refine Lx.lexO_read (v := ?_) rfl (by first | exact Lx.w0 rfl | exact Lx.w1 rfl rfl rfl (by with_reducible rfl)) ?_ (fun K hK => ?_); rotate_left 1; (go_simp; with_reducible rfl); go_simp; refine hK _ ?_; clear hK K)
              | (refine Lx.lexO_eff rfl (by first | exact Lx.w0 rfl | exact Lx.w1 rfl rfl rfl (by with_reducible rfl)) (fun K hK => ?_); go_simp; (first | (go_at_call 24; refine (HPR.out _ (hba1.alloc hba1.size _)).mono ?_; rintro e Wb ⟨⟨pa, pn, pc, ⟨B0', m0, d0, B1', m1, d1, B2', m2, d2⟩⟩, es, rfl, hat, hsay, hbb⟩; have hba2 : Below W1.heap.size W1 (Wa.alloc (.cells #[.slice none 0 0, .slice none 0 0, .slice none 0 0, .slice none 0 0] 57)) := hba1.alloc hba1.size _; have hbb2 : Below W1.heap.size W1 Wb := hba2.trans (hbb.mono hba2.size); have hblk : Blk Wb Wa.heap.size 57 [.slice none 0 0, .slice none 0 0, .slice none 0 0, .slice none 0 0] := (blk_new Wa _ _).keep hbb; have HST4 := Lib.hid (prb_store hat hblk hbb2 hba1.size); have hbs4 := HST4.out.2.2; have f0 := hblk.cell (i := 0) rfl; have f1 := hblk.cell (i := 1) rfl; have f2 := hblk.cell (i := 2) rfl; have f3 := hblk.cell (i := 3) rfl; have f4 := hblk.lt; have f5 : ∀ o, Wb.frozen? ⟨Wa.heap.size, o, none⟩ = false := hblk.frozen; unfold PrbS.val; dsimp only) | (have hba2 : Below W1.heap.size W1 (Wa.alloc (.cells #[.slice none 0 0, .slice none 0 0, .slice none 0 0, .slice none 0 0] 57)) := hba1.alloc hba1.size _) | skip | skip); refine hK _ _ (by first | exact HC1.out _ hbs4 | exact HC1.out _ hbs2 | exact HC1.out _ hbb2 | exact HC1.out _ hba2 | exact HC1.out _ hba1 | exact HC1.out _ (HDA.out)) ?_; clear hK K))
            all_goals (refine Lx.lexO_done ?_)
            go_wp2_with fail
            go_meet
            obtain ⟨k1, k2, k3⟩ := HST4.out
            exact ⟨_, ⟨pa, pn, pc, ⟨B0', m0, d0, B1', m1, d1, B2', m2, d2⟩⟩, es, rfl, rfl, k1, PrbAt.up k2 (by simp), hsay, k3⟩
        · skip
          repeat' (first
            | (refine Lx.lexO_no (Lx.n1 rfl rfl rfl (by with_reducible rfl)) (fun K hK => ?_); go_simp; refine hK _ ?_; clear hK K)
            | (refine Lx.lexO_no (Lx.n0 rfl rfl rfl (by with_reducible rfl)) (fun K hK => ?_); go_simp; refine hK _ ?_; clear hK K)
            | (refine Lx.lexO_no (Lx.n2 rfl rfl rfl) (fun K hK => ?_); go_simp; refine hK _ ?_; clear hK K)
            | (refine Lx.lexO_pure (v := ?_) rfl (by first | exact Lx.w0 rfl | exact Lx.w1 rfl rfl rfl (by with_reducible rfl)) ?_ (fun K hK => ?_); rotate_left 1; (intro w' hCw; (try dsimp only at hCw); go_simp; done); go_simp; refine hK _ ?_; clear hK K)
            | (refine Lx.lexO_pure (v := ?_) rfl (by first | exact Lx.w0 rfl | exact Lx.w1 rfl rfl rfl (by with_reducible rfl)) ?_ (fun K hK => ?_); rotate_left 1; (intro w' hCw; (try dsimp only at hCw); go_simp; with_reducible rfl); go_simp; refine hK _ ?_; clear hK K)
            | (refine Lx.lexO_read (v := ?_) rfl (by first | exact Lx.w0 rfl | exact Lx.w1 rfl rfl rfl (by with_reducible rfl)) ?_ (fun K hK => ?_); rotate_left 1; (go_simp; done); go_simp; refine hK _ ?_; clear hK K)
            | (refine Lx.lexO_read (v := ?_) rfl (by first | exact Lx.w0 rfl | exact Lx.w1 rfl rfl rfl (by with_reducible rfl)) ?_ (fun K hK => ?_); rotate_left 1; (go_simp; with_reducible rfl); go_simp; refine hK _ ?_; clear hK K)
            | (refine Lx.lexO_eff rfl (by first | exact Lx.w0 rfl | exact Lx.w1 rfl rfl rfl (by with_reducible rfl)) (fun K hK => ?_); go_simp; (first | (go_at_call 12; refine (HTO.out _ _).mono ?_; rintro e Wa ⟨rfl, hba⟩; have hba1 : Below W1.heap.size W1 Wa := HDA.out.trans (hba.mono HDA.out.size)) | (go_at_call 24; refine (HPR.out _ (hba1)).mono ?_; rintro e Wb ⟨⟨pa, pn, pc, ⟨B0', m0, d0, B1', m1, d1, B2', m2, d2⟩⟩, es, rfl, hat, hsay, hbb⟩; have hbb2 : Below W1.heap.size W1 Wb := hba1.trans (hbb.mono hba1.size); have hblk : Blk Wb W1.heap.size 57 [.slice none 0 0, .slice none 0 0, .slice none 0 0, .slice none 0 0] := Blk.keep (Blk.keep (w := (W1.alloc (.cells #[.slice none 0 0, .slice none 0 0, .slice none 0 0, .slice none 0 0] 57)).drew) (blk_new W1 _ _) hba) hbb; have HST4 := Lib.hid (prb_store hat hblk hbb2 (Nat.le_refl _)); have hbs4 := HST4.out.2.2; have f0 := hblk.cell (i := 0) rfl; have f1 := hblk.cell (i := 1) rfl; have f2 := hblk.cell (i := 2) rfl; have f3 := hblk.cell (i := 3) rfl; have f4 := hblk.lt; have f5 : ∀ o, Wb.frozen? ⟨W1.heap.size, o, none⟩ = false := hblk.frozen; unfold PrbS.val; dsimp only) | skip | skip); refine hK _ _ (by first | exact HC1.out _ hbs4 | exact HC1.out _ hbs2 | exact HC1.out _ hbb2 | exact HC1.out _ hba2 | exact HC1.out _ hba1 | exact HC1.out _ (HDA.out)) ?_; clear hK K))
          all_goals (refine Lx.lexO_done ?_)
          go_wp2_with fail
          go_meet
          obtain ⟨k1, k2, k3⟩ := HST4.out
          exact ⟨_, ⟨pa, pn, pc, ⟨B0', m0, d0, B1', m1, d1, B2', m2, d2⟩⟩, es, rfl, rfl, k1, PrbAt.up k2 (by simp), hsay, k3⟩
      case rest =>
        obtain ⟨g, ⟨pa, pn, pc, ⟨D0, m0, e0, D1, m1, e1, D2, m2, e2⟩⟩, es, rfl, rfl, hblk, hat, hsay, hbx⟩ := hcut
        obtain ⟨wp, rfl⟩ : ∃ wp : World, wp = wc := ⟨_, rfl⟩
        have HBX := Lib.hid hbx
        have HBK := Lib.hid hblk
        have HPA := Lib.hid hat
        have HSY := Eqn.mk hsay
        have HB0C : Hid (Below W0.heap.size W0 wp) := Lib.hid (HB1.out.trans (hbx.mono HB1.out.size))
        have HVB : Hid (Calls Try.prog 25 #[.slice A n c] wp (RetPost (.bool (vbGo none ds)) wp.heap.size wp)) := Lib.hid (rvb_any A n c wp ds (by have := HF1.out; have := HD.out.1.1; omega) (fun d hd => Nat.le_trans (HF2.out d hd) (by omega)) (HD.out.keep HB0C.out))
        have HVR : Hid (∀ W, Below wp.heap.size wp W → Calls Try.prog 26 #[.agg #[.slice A0 n0 c0, .slice A1 n1 c1, .slice A2 n2 c2]] W (RetPost (.bool (rulesR r)) W.heap.size W)) := Lib.hid (fun W hW => rrules_any ⟨A0, n0, c0, A1, n1, c1, A2, n2, c2⟩ W r ((HR.out.keep HB0C.out).keep hW))
        have HCC : Hid (∀ X, Below wp.heap.size wp X → X.cell? ⟨w.heap.size, 0, none⟩ = some (.slice A0 n0 c0) ∧ X.cell? ⟨w.heap.size, 1, none⟩ = some (.slice A1 n1 c1) ∧ X.cell? ⟨w.heap.size, 2, none⟩ = some (.slice A2 n2 c2) ∧ w.heap.size < X.heap.size ∧ Blk X g 57 [.slice pa pn pc, .slice D0 m0 e0, .slice D1 m1 e1, .slice D2 m2 e2]) := Lib.hid (fun X h => by
          have hb := HB0C.out.trans (h.mono HB0C.out.size)
          have hx := HX.out.keep hb
          exact ⟨hx.cell rfl, hx.cell rfl, hx.cell rfl, hx.lt, HBK.out.keep h⟩)
        clear hbx hblk hat hsay HPR HC1 HDR HDA z0 z1 z2 z4 HFW HSM
        go_upto_region 4 with fail
        go_cut [40] from 27 (fun s40 wx => s40 = .bool (!(vbGo none ds && (rulesR r && vldT t))) ∧ Below wp.heap.size wp wx)
        case first =>
          go_wp2_with fail
          refine HVB.out.mono ?_
          rintro e Wa ⟨rfl, hba⟩
          have HBa := Lib.hid hba
          cases hv : vbGo none ds with
          | false =>
            clear hba
            go_wp2_with fail
            go_meet
            exact ⟨by rw [hv]; rfl, HBa.out⟩
          | true =>
            obtain ⟨q0, q1, q2, q4, _⟩ := HCC.out _ hba
            clear hba
            go_wp2_with fail
            refine (HVR.out _ HBa.out).mono ?_
            rintro e Wb ⟨rfl, hbb⟩
            have HBb := Lib.hid (HBa.out.trans (hbb.mono HBa.out.size))
            clear hbb q0 q1 q2
            cases hr : rulesR r with
            | false =>
              go_wp2_with fail
              go_meet
              exact ⟨by rw [hv, hr]; rfl, HBb.out⟩
            | true =>
              go_wp2_with fail
              refine (HTO.out _ _).mono ?_
              rintro e Wd ⟨rfl, hbd⟩
              go_wp2_with fail
              refine (HAT.out _).mono ?_
              rintro e We ⟨rfl, hbe⟩
              have hbd1 := HBb.out.trans (hbd.mono HBb.out.size)
              have HBe := Lib.hid (hbd1.trans (hbe.mono hbd1.size))
              clear hbd hbe hbd1
              cases ht : vldT t with
              | false =>
                have hlt : decide (atF t < 0) = true := decide_eq_true ((at_vld t).1 ht)
                have HT := Eqn.mk ht
                clear ht
                go_wp2_with fail
                go_meet
                exact ⟨by rw [hv, hr, HT.out]; rfl, HBe.out⟩
              | true =>
                have hlt : decide (atF t < 0) = false := decide_eq_false (fun h => by rw [(at_vld t).2 h] at ht; cases ht)
                have HT := Eqn.mk ht
                clear ht
                go_wp2_with fail
                go_meet
                exact ⟨by rw [hv, hr, HT.out]; rfl, HBe.out⟩
        case rest =>
          obtain ⟨rfl, hbx⟩ := hcut
          have HBd := Lib.hid hbx
          obtain ⟨q0, q1, q2, q4, hbk⟩ := HCC.out _ hbx
          have g0 : wc.cell? ⟨g, 0, none⟩ = some (.slice pa pn pc) := hbk.cell rfl
          have g1 : wc.cell? ⟨g, 1, none⟩ = some (.slice D0 m0 e0) := hbk.cell rfl
          have g2 : wc.cell? ⟨g, 2, none⟩ = some (.slice D1 m1 e1) := hbk.cell rfl
          have g3 : wc.cell? ⟨g, 3, none⟩ = some (.slice D2 m2 e2) := hbk.cell rfl
          have g4 := hbk.lt
          have HRV := rules_eq r
          by_cases hall : vbGo none ds = true ∧ rulesF r = true ∧ vldT t = true
          · have hbool : (vbGo none ds && (rulesR r && vldT t)) = true := by rw [HRV, hall.1, hall.2.1, hall.2.2]; rfl
            obtain ⟨h1, h2, h3⟩ := hall
            have hnl : ds.length ≤ 12 := HF1.out
            have HPF : Eqn (probF ds r t) ((ds.map (domR t), keepR (ds.map Dom.st) r), 0) := by rw [Eqn, probF, if_pos ⟨h1, h2, h3⟩, keep_agree h1, dom_agree h3 h1]
            have hpa := HPA.out
            have hsy := HSY.out
            rw [HPF.out] at hpa hsy
            dsimp only at hpa hsy
            have hsy2 : es.map Dom.say = ds.map (domOf t) := by rw [hsy, dom_agree h3 h1]
            have hel : ∀ d ∈ es, d.len = d.chs.length := fun d hd => (hpa.1.2 d hd).1.symm
            have hVT := prob_valid h1 h2 h3 (by omega) hsy2 hel
            have hlen : es.length = ds.length := by have := congrArg List.length hsy; simpa using this
            have hpn : pn = es.length := hpa.1.1.1.symm
            have hchs : ∀ d ∈ es, d.len ≤ 100000 := by
              intro d hd
              rw [hel d hd]
              have hm : d.say ∈ ds.map (domOf t) := by rw [← hsy2]; exact List.mem_map.2 ⟨d, hd, rfl⟩
              obtain ⟨x, hx, he⟩ := List.mem_map.1 hm
              have h9 := (bands_chs h3 (vbGo_bands ds none h1 x hx)).2.1
              have h8 : d.chs = (domOf t x).2 := by rw [he]; rfl
              rw [h8]
              unfold domOf
              dsimp only
              omega
            have HPC : Hid (∀ X, Below wc.heap.size wc X → PrbAt X X.heap.size ⟨pa, pn, pc, ⟨D0, m0, e0, D1, m1, e1, D2, m2, e2⟩⟩ es (keepR (ds.map Dom.st) r)) := Lib.hid (fun X h => (hpa.keep hbx).keep h)
            have HVL : Hid (∀ X, Below wc.heap.size wc X → Calls Try.prog 28 #[.agg #[.slice pa pn pc, .slice D0 m0 e0, .slice D1 m1 e1, .slice D2 m2 e2]] X (RetPost (.bool true) X.heap.size X)) := Lib.hid (fun X h => by
              have := rvalid_any ⟨pa, pn, pc, ⟨D0, m0, e0, D1, m1, e1, D2, m2, e2⟩⟩ X es (keepR (ds.map Dom.st) r) (by dsimp only; omega) (HPC.out X h)
              rw [hVT] at this
              exact this)
            have HRP : Hid (∀ X, Below wc.heap.size wc X → Calls Try.prog 29 #[.slice A n c, .agg #[.slice A0 n0 c0, .slice A1 n1 c1, .slice A2 n2 c2], .agg #[.int .i64 t]] X (PrbRet (ds.map (domR t), keepR (ds.map Dom.st) r) X)) := Lib.hid (fun X h => by
              have hb := HB0C.out.trans ((HBd.out.trans (h.mono HBd.out.size)).mono HB0C.out.size)
              exact rprob_any A n c ⟨A0, n0, c0, A1, n1, c1, A2, n2, c2⟩ t X ds r (by have := HD.out.1.1; omega) (fun d hd => Nat.le_trans (HF2.out d hd) (by omega)) (HD.out.keep hb) (HR.out.keep hb) HM.out)
            have HSS : Hid (∀ X (s2 : PrbS) (es2 : List Dom), Below wc.heap.size wc X → PrbAt X X.heap.size s2 es2 (keepR (ds.map Dom.st) r) → es2.map Dom.say = ds.map (domR t) → Calls Try.prog 27 #[.agg #[.slice pa pn pc, .slice D0 m0 e0, .slice D1 m1 e1, .slice D2 m2 e2], s2.val] X (RetPost (.bool true) X.heap.size X)) := Lib.hid (fun X s2 es2 h hp he => rsame_any ⟨pa, pn, pc, ⟨D0, m0, e0, D1, m1, e1, D2, m2, e2⟩⟩ s2 X es es2 _ (by dsimp only; omega) hchs (HPC.out X h) hp (hsy.trans he.symm))
            unfold PrbS.val at HSS
            have HCW : Hid (∀ X, Below wc.heap.size wc X → Below wc.heap.size wc X ∧ X.cell? ⟨w.heap.size, 0, none⟩ = some (.slice A0 n0 c0) ∧ X.cell? ⟨w.heap.size, 1, none⟩ = some (.slice A1 n1 c1) ∧ X.cell? ⟨w.heap.size, 2, none⟩ = some (.slice A2 n2 c2) ∧ X.cell? ⟨g, 0, none⟩ = some (.slice pa pn pc) ∧ X.cell? ⟨g, 1, none⟩ = some (.slice D0 m0 e0) ∧ X.cell? ⟨g, 2, none⟩ = some (.slice D1 m1 e1) ∧ X.cell? ⟨g, 3, none⟩ = some (.slice D2 m2 e2)) := Lib.hid (fun X h => by
              obtain ⟨a0, a1, a2, _, ak⟩ := HCC.out X (HBd.out.trans (h.mono HBd.out.size))
              exact ⟨h, a0, a1, a2, ak.cell rfl, ak.cell rfl, ak.cell rfl, ak.cell rfl⟩)
            have HDR := Lib.hid ((Below.refl wc.heap.size wc).drew)
            rw [hbool, HPF.out]
            dsimp only
            clear hbx hbk HRV hbool HPF h1 h2 h3 hpa hsy hsy2 hel hVT hlen hpn hchs HPA HSY HVB HVR hnl
            go_wp2_with fail
            refine Lx.region (C := fun X => Below wc.heap.size wc X ∧ X.cell? ⟨w.heap.size, 0, none⟩ = some (.slice A0 n0 c0) ∧ X.cell? ⟨w.heap.size, 1, none⟩ = some (.slice A1 n1 c1) ∧ X.cell? ⟨w.heap.size, 2, none⟩ = some (.slice A2 n2 c2) ∧ X.cell? ⟨g, 0, none⟩ = some (.slice pa pn pc) ∧ X.cell? ⟨g, 1, none⟩ = some (.slice D0 m0 e0) ∧ X.cell? ⟨g, 2, none⟩ = some (.slice D1 m1 e1) ∧ X.cell? ⟨g, 3, none⟩ = some (.slice D2 m2 e2)) (hs := [7, 9]) (by kernel_rfl) (by kernel_rfl) (HCW.out _ HDR.out) ?_
            repeat' (first
              | (refine Lx.lex_no (Lx.n1 rfl rfl rfl (by with_reducible rfl)) (fun K hK => ?_); go_simp; skip; refine hK _ ?_; clear hK K)
              | (refine Lx.lex_no (Lx.n0 rfl rfl rfl (by with_reducible rfl)) (fun K hK => ?_); go_simp; skip; refine hK _ ?_; clear hK K)
              | (refine Lx.lex_no (Lx.n2 rfl rfl rfl) (fun K hK => ?_); go_simp; skip; refine hK _ ?_; clear hK K)
              | (refine Lx.lex_pure (v := ?_) rfl (by first | exact Lx.w0 rfl | exact Lx.w1 rfl rfl rfl (by with_reducible rfl)) ?_ (fun K hK => ?_); rotate_left 1; (intro w' hCw; (try dsimp only at hCw); go_simp; first | done | with_reducible rfl); go_simp; skip; refine hK _ ?_; clear hK K)
              | (refine Lx.lex_read (v := ?_) rfl (by first | exact Lx.w0 rfl | exact Lx.w1 rfl rfl rfl (by with_reducible rfl)) ?_ (fun K hK => ?_); rotate_left 1; (go_simp; first | done | with_reducible rfl); go_simp; skip; refine hK _ ?_; clear hK K)
              | (refine Lx.lex_eff rfl (by first | exact Lx.w0 rfl | exact Lx.w1 rfl rfl rfl (by with_reducible rfl)) (fun K hK => ?_); go_simp; (first | (go_at_call 28; refine (HVL.out _ HDR.out).mono ?_; rintro e Wa ⟨rfl, hba⟩; have hb1 : Below wc.heap.size wc Wa := HDR.out.trans (hba.mono HDR.out.size)) | (go_at_call 12; refine (HTO.out _ _).mono ?_; rintro e Wb ⟨rfl, hbb⟩; have hb2 : Below wc.heap.size wc Wb := hb1.trans (hbb.mono hb1.size)) | (go_at_call 29; refine (HRP.out _ hb2).mono ?_; rintro e Wd ⟨⟨qa, qn, qc, ⟨F0, i0, j0, F1, i1, j1, F2, i2, j2⟩⟩, es2, rfl, hat2, hsay2, hbd⟩; have hb3 : Below wc.heap.size wc Wd := hb2.trans (hbd.mono hb2.size); unfold PrbS.val; dsimp only) | (go_at_call 27; refine (HSS.out _ _ es2 hb3 hat2 hsay2).mono ?_; rintro e We ⟨rfl, hbe⟩; have hb4 : Below wc.heap.size wc We := hb3.trans (hbe.mono hb3.size)) | (go_at_call 10; refine (HK.out _).mono ?_; rintro e Wf ⟨rfl, hbf⟩; have hb5 : Below wc.heap.size wc Wf := hb4.trans (hbf.mono hb4.size))); refine hK _ _ (by first | exact HCW.out _ hb5 | exact HCW.out _ hb4 | exact HCW.out _ hb3 | exact HCW.out _ hb2 | exact HCW.out _ hb1) ?_; clear hK K))
            all_goals (refine Lx.lex_nil ?_)
            go_wp2_with fail
            go_ret
            exact ⟨rfl, HBW.out _ (HB0C.out.trans ((HBd.out.trans (hb5.mono HBd.out.size)).mono HB0C.out.size))⟩
          · have hbool : (vbGo none ds && (rulesR r && vldT t)) = false := by
              rw [HRV]
              cases h1 : vbGo none ds <;> cases h2 : rulesF r <;> cases h3 : vldT t <;> simp_all
            have HPF : Eqn (probF ds r t) ((([], ⟨[], [], []⟩), 2)) := by rw [Eqn, probF, if_neg hall]
            have hes : es = [] := by
              have := HSY.out
              rw [HPF.out] at this
              simpa using this
            have HPB := HPA.out
            rw [HPF.out, hes] at HPB
            have HSM : Hid (Calls Try.prog 27 #[.agg #[.slice pa pn pc, .slice D0 m0 e0, .slice D1 m1 e1, .slice D2 m2 e2], .agg #[.slice none 0 0, .slice none 0 0, .slice none 0 0, .slice none 0 0]] wc (RetPost (.bool true) wc.heap.size wc)) := Lib.hid (rsame_any ⟨pa, pn, pc, ⟨D0, m0, e0, D1, m1, e1, D2, m2, e2⟩⟩ ⟨none, 0, 0, ⟨none, 0, 0, none, 0, 0, none, 0, 0⟩⟩ wc [] [] ⟨[], [], []⟩ (by have := HPB.1.1.1; simp at this; dsimp only; omega) (fun x hx => by cases hx) (HPB.keep hbx) (prb_nil _ _) rfl)
            rw [hbool, HPF.out]
            dsimp only
            clear hbx hbk HRV hall hbool HPF hes HPB HPA HSY HCC HVB HVR q0 q1 q2
            go_wp2_with fail
            refine HSM.out.mono ?_
            rintro e Wf ⟨rfl, hbf⟩
            have HBf := Lib.hid (HBd.out.trans (hbf.mono HBd.out.size))
            clear hbf g0 g1 g2 g3
            go_wp2_with fail
            refine (HK.out _).mono ?_
            rintro e Wg ⟨rfl, hbg⟩
            have HBg := Lib.hid (HBf.out.trans (hbg.mono HBf.out.size))
            clear hbg
            go_wp2_with fail
            go_ret
            exact ⟨rfl, HBW.out _ (HB0C.out.trans (HBg.out.mono HB0C.out.size))⟩

set_option maxRecDepth 100000 in
theorem bandProblems_lifted (os : Os) (started : os.Started) (H : Type) (enc : TypeId × Value → H) :
    ReturnsInHanded {} Try.checked os 6 .any (Rows.bandProblemsSpec.pre6 enc Try.prog Try.f6 Rows.bandProblemsRow.domain false) (Rows.bandProblemsSpec.post enc Try.prog Try.f6 false true false false) := by
  refine returnsInHanded_of_change (C := Try.checked) own started (by kernel_rfl) Try.func6
    (ChangeSpec.witness6 (enc := enc) (C := Try.checked) false ⟨#[], #[.slice none 0 0, .agg #[.slice none 0 0, .slice none 0 0, .slice none 0 0], .int .i64 0], []⟩ 8 (by kernel_rfl) (by kernel_rfl) (by kernel_rfl) (by kernel_rfl)) ?_
  intro W base args ds gs before hval0 hW hcnd _
  have hval : ∀ (j : Nat) t v, Try.f6.params[j]? = some t → args[j]? = some v → Value.okWide Try.prog W .any base t v := hval0
  have hW' := hW
  obtain ⟨p, q, hA0, hV, rfl, hfz, hnd⟩ := hW
  have hA : DataW.TrodAll enc Try.prog W 0 (fun _ => true) true Try.f6.params.toList args.toList ds p := hA0
  rw [Try.params6] at hA hval
  obtain ⟨v0, vs0, d0, ds0, p0, q0, hargs, rfl, rfl, h0, r0⟩ := trodAll_cons hA
  obtain ⟨v1, vs1, d1, ds1, p1, q1, rfl, rfl, rfl, h1, r1⟩ := trodAll_cons r0
  obtain ⟨v2, vs2, d2, ds2, p2, q2, rfl, rfl, rfl, h2, r2⟩ := trodAll_cons r1
  obtain ⟨rfl, rfl, rfl⟩ := trodAll_nil r2
  obtain rfl : args = #[v0, v1, v2] := by cases args; simp_all
  obtain ⟨rfl, rfl⟩ := trodVars_none hV
  have k0 := h0
  have lt0 : ∀ x ∈ p0, x.block < W.heap.size := by obtain ⟨m, hm⟩ := k0; exact DataW.trod_lt m _ _ _ hm
  have k1 := h1
  have lt1 : ∀ x ∈ p1, x.block < W.heap.size := by obtain ⟨m, hm⟩ := k1; exact DataW.trod_lt m _ _ _ hm
  have k2 := h2
  have lt2 : ∀ x ∈ p2, x.block < W.heap.size := by obtain ⟨m, hm⟩ := k2; exact DataW.trod_lt m _ _ _ hm
  obtain ⟨A0, n0, c0, xs0, rfl, R0⟩ := arg_bands (hval 0 47 _ rfl rfl) h0
  obtain ⟨s1, x1, rfl, R1⟩ := arg_rul (hval 1 52 _ rfl rfl) h1
  obtain ⟨x2, rfl, b2⟩ := arg_int Try.underlying3 (hval 2 3 _ rfl rfl) h2
  clear hA0 hval0
  refine (bandProblems_walk W A0 n0 c0 xs0 R0 s1 x1 R1 x2 b2).mono fun e W' ⟨he, bel⟩ => ?_
  subst he
  exact ⟨_, rfl, _, _, _, [], _, [], hW', trodAll_mk1 (shut_bool Try.underlying4 _), (trodAll_cons_mk (Below.trod laidOut (by kernel_rfl) (of_decide_eq_true (by kernel_rfl)) k0 bel lt0) (trodAll_cons_mk (Below.trod laidOut (by kernel_rfl) (of_decide_eq_true (by kernel_rfl)) k1 bel lt1) (trodAll_cons_mk (Below.trod laidOut (by kernel_rfl) (of_decide_eq_true (by kernel_rfl)) k2 bel lt2) trodAll_mk0))), rfl, bel.frame _, fun h => by cases h⟩

theorem bandProblems_over : Rows.bandProblemsRow.holds Try.pinned (OpenSpec.ofChange Rows.bandProblemsSpec) :=
  OpenClaim.holds_of_wide 6 Try.f6 rfl rfl rfl rfl rfl rfl rfl ⟨rfl, rfl, rfl, rfl, rfl⟩ rfl rfl rfl rfl rfl (by kernel_rfl) Try.func6 (by kernel_rfl)
    (of_decide_eq_true (by kernel_rfl)) (by unfold Func.isWrapper; first | (rw [if_pos (by decide +kernel)]; kernel_rfl) | (rw [if_neg (by decide +kernel)]; exact ⟨rfl, rfl⟩))
    (fun os started H enc _ => bandProblems_lifted os started H enc)

theorem bandProblems_holds : Rows.BandProblemsSaid := bandProblems_over
#print axioms bandProblems_holds
end Go.Proofs.Ytpdhelhngdeoeaa
