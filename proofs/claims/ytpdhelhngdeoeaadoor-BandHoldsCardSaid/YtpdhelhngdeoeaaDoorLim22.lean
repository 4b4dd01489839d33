/- BandLimits: the limited problem of any problem and target, or the error; the problem is not changed. -/
import Derived.Deep.CutBlock
import Derived.Test.YtpdhelhngdeoeaaDoorLim15
import Derived.Test.YtpdhelhngdeoeaaDoorLim18
import Derived.Test.YtpdhelhngdeoeaaDoorLim19
import Derived.Test.YtpdhelhngdeoeaaDoorLim21
namespace Go.Proofs.YtpdhelhngdeoeaaDoor
open Go.RowKit Go.ChangeShapes Go.WideShapes Go.ChangeAt Go.Deep Go.Joins

theorem blk_cell {W : World} {g t : Nat} {s : List Value} (h : Blk W g t s) (k : Nat) : W.cell? ⟨g, k, none⟩ = s[k]? := by
  simp [World.cell?, show W.heap[g]? = _ from h]
def Slices (s : List Value) : Prop := ∀ (k : Nat) (v : Value), s[k]? = some v → ∃ a l c, v = .slice a l c
theorem cell_other {W : World} {b g : Nat} (hne : b ≠ g) (o i : Nat) (u : Value) : (W.setCell ⟨g, i, none⟩ u).cell? ⟨b, o, none⟩ = W.cell? ⟨b, o, none⟩ := by
  have h := Below.heap_setCell W ⟨g, i, none⟩ u b (fun e => hne e)
  unfold World.cell?
  dsimp only
  rw [h]
theorem rowS_set {α : Type} {sz : Nat} {f : α → Nat → Value} {W : World} {D : Nat} {A : Option Addr} {n : Nat} {xs : List α} (h : RowS sz f W D A n xs) (hsz : 0 < sz) (hf : ∀ x, ∃ z, f x 0 = .int .i64 z) {g t : Nat} {s : List Value} (hb : Blk W g t s) (hs : Slices s) (i : Nat) (u : Value) : RowS sz f (W.setCell ⟨g, i, none⟩ u) D A n xs := by
  refine ⟨h.1, fun hn => ?_⟩
  obtain ⟨b, off, hA, hbl, hc⟩ := h.2 hn
  obtain ⟨x, hx⟩ : ∃ x, xs[0]? = some x := ⟨_, List.getElem?_eq_getElem (by have := h.1; omega)⟩
  have h0 := hc 0 x hx 0 hsz
  have hne : b ≠ g := by
    rintro rfl
    obtain ⟨z, hz⟩ := hf x
    rw [blk_cell hb, hz] at h0
    obtain ⟨a, l, c, hv⟩ := hs _ _ h0
    cases hv
  exact ⟨b, off, hA, hbl, fun k y hy j hj => (cell_other hne _ i u).trans (hc k y hy j hj)⟩
theorem row1_set {W : World} {D : Nat} {A : Option Addr} {n : Nat} {xs : List Int} (h : Row1 intV W D A n xs) {g t : Nat} {s : List Value} (hb : Blk W g t s) (hs : Slices s) (i : Nat) (u : Value) : Row1 intV (W.setCell ⟨g, i, none⟩ u) D A n xs := by
  refine ⟨h.1, fun hn => ?_⟩
  obtain ⟨b, off, hA, hbl, hc⟩ := h.2 hn
  obtain ⟨x, hx⟩ : ∃ x, xs[0]? = some x := ⟨_, List.getElem?_eq_getElem (by have := h.1; omega)⟩
  have h0 := hc 0 x hx
  have hne : b ≠ g := by
    rintro rfl
    rw [blk_cell hb] at h0
    obtain ⟨a, l, c, hv⟩ := hs _ _ h0
    cases hv
  exact ⟨b, off, hA, hbl, fun k y hy => (cell_other hne _ i u).trans (hc k y hy)⟩
theorem PrbAt.set {W : World} {D : Nat} {s : PrbS} {ds : List Dom} {r : Rul} (h : PrbAt W D s ds r) {g t : Nat} {l : List Value} (hb : Blk W g t l) (hs : Slices l) (i : Nat) (u : Value) : PrbAt (W.setCell ⟨g, i, none⟩ u) D s ds r :=
  ⟨⟨rowS_set h.1.1 (by decide) (fun x => ⟨_, rfl⟩) hb hs i u, fun d hd => row1_set (h.1.2 d hd) hb hs i u⟩, rowS_set h.2.1 (by decide) (fun x => ⟨_, rfl⟩) hb hs i u, rowS_set h.2.2.1 (by decide) (fun x => ⟨_, rfl⟩) hb hs i u, rowS_set h.2.2.2.1 (by decide) (fun x => ⟨_, rfl⟩) hb hs i u, h.2.2.2.2⟩
theorem PrbAt.keep {W W' : World} {s : PrbS} {ds : List Dom} {r : Rul} (h : PrbAt W W.heap.size s ds r) (hb : Below W.heap.size W W') : PrbAt W' W'.heap.size s ds r := ⟨h.1.keep hb, h.2.keep hb⟩
theorem PrbAt.up {W : World} {D D' : Nat} {s : PrbS} {ds : List Dom} {r : Rul} (h : PrbAt W D s ds r) (hD : D ≤ D') : PrbAt W D' s ds r := ⟨h.1.up hD, h.2.up hD⟩
theorem slices4 (a b c d : Option Addr) (n1 k1 n2 k2 n3 k3 n4 k4 : Nat) : Slices [.slice a n1 k1, .slice b n2 k2, .slice c n3 k3, .slice d n4 k4] := by
  intro k v h
  match k, h with
  | 0, h => simp at h; exact ⟨_, _, _, h.symm⟩
  | 1, h => simp at h; exact ⟨_, _, _, h.symm⟩
  | 2, h => simp at h; exact ⟨_, _, _, h.symm⟩
  | 3, h => simp at h; exact ⟨_, _, _, h.symm⟩
  | k + 4, h => simp at h
def ss4 (s : PrbS) : List Value := [.slice s.ad s.nd s.cd, .slice s.rs.a0 s.rs.n0 s.rs.c0, .slice s.rs.a1 s.rs.n1 s.rs.c1, .slice s.rs.a2 s.rs.n2 s.rs.c2]
/-- a problem is stored into a box of its own -/
theorem prb_store {W : World} {g : Nat} {s : PrbS} {ds : List Dom} {r : Rul} (h : PrbAt W W.heap.size s ds r) (hb : Blk W g 29 [.slice none 0 0, .slice none 0 0, .slice none 0 0, .slice none 0 0]) {W1 : World} (hB : Below W1.heap.size W1 W) (hg : W1.heap.size ≤ g) :
    Blk ((((W.setCell ⟨g, 0, none⟩ (.slice s.ad s.nd s.cd)).setCell ⟨g, 1, none⟩ (.slice s.rs.a0 s.rs.n0 s.rs.c0)).setCell ⟨g, 2, none⟩ (.slice s.rs.a1 s.rs.n1 s.rs.c1)).setCell ⟨g, 3, none⟩ (.slice s.rs.a2 s.rs.n2 s.rs.c2)) g 29 (ss4 s) ∧
    PrbAt ((((W.setCell ⟨g, 0, none⟩ (.slice s.ad s.nd s.cd)).setCell ⟨g, 1, none⟩ (.slice s.rs.a0 s.rs.n0 s.rs.c0)).setCell ⟨g, 2, none⟩ (.slice s.rs.a1 s.rs.n1 s.rs.c1)).setCell ⟨g, 3, none⟩ (.slice s.rs.a2 s.rs.n2 s.rs.c2)) W.heap.size s ds r ∧
    Below W1.heap.size W1 ((((W.setCell ⟨g, 0, none⟩ (.slice s.ad s.nd s.cd)).setCell ⟨g, 1, none⟩ (.slice s.rs.a0 s.rs.n0 s.rs.c0)).setCell ⟨g, 2, none⟩ (.slice s.rs.a1 s.rs.n1 s.rs.c1)).setCell ⟨g, 3, none⟩ (.slice s.rs.a2 s.rs.n2 s.rs.c2)) := by
  have b1 := hb.set_ 0 (.slice s.ad s.nd s.cd)
  have b2 := b1.set_ 1 (.slice s.rs.a0 s.rs.n0 s.rs.c0)
  have b3 := b2.set_ 2 (.slice s.rs.a1 s.rs.n1 s.rs.c1)
  have b4 := b3.set_ 3 (.slice s.rs.a2 s.rs.n2 s.rs.c2)
  refine ⟨b4, (((h.set hb (slices4 _ _ _ _ _ _ _ _ _ _ _ _) 0 _).set b1 (slices4 _ _ _ _ _ _ _ _ _ _ _ _) 1 _).set b2 (slices4 _ _ _ _ _ _ _ _ _ _ _ _) 2 _).set b3 (slices4 _ _ _ _ _ _ _ _ _ _ _ _) 3 _, ?_⟩
  exact (((hB.setCell (p := ⟨g, 0, none⟩) hg _).setCell (p := ⟨g, 1, none⟩) hg _).setCell (p := ⟨g, 2, none⟩) hg _).setCell (p := ⟨g, 3, none⟩) hg _
theorem topF_in {t : Int} (hr : t ≤ 24 ∧ 7 ≤ t) : topF t = 51 - t := by
  unfold topF
  exact IntWalk.wrap64_in (51 - t) (by omega)
theorem leftP_R {t : Int} (ht : vldT t = true) {c : Int} (hc : 2 ≤ c ∧ c ≤ 51) : leftP t c = leftR t c := by
  have hr : t ≤ 24 ∧ 7 ≤ t := by
    by_cases h : ∃ e, e < 11 ∧ t = keyE e
    · obtain ⟨e, he, rfl⟩ := h
      have : ∀ e : Fin 11, keyE e.1 ≤ 24 ∧ 7 ≤ keyE e.1 := by decide
      exact this ⟨e, he⟩
    · unfold vldT at ht
      rw [blkN_no t (fun e he hh => h ⟨e, he, hh⟩)] at ht
      cases ht
  have htop : topF t = 51 - t := topF_in hr
  unfold leftP leftR
  rw [htop]
  by_cases h1 : c < 14
  · have h2 : c ≤ 51 - t := by omega
    have h3 : c ≠ 37 := by omega
    simp [h1, h2, h3]
  · by_cases h3 : c = 37 <;> simp [h1, h3]
theorem lim_agree {ds : List Dom} {r : Rul} {t : Int} (hv : validP ds r = true) (ht : vldT t = true) : ds.map (limD t) = ds.map (limR t) := by
  refine List.map_congr_left (fun d hd => ?_)
  unfold limD limR
  congr 1
  refine List.filter_congr (fun c hc => leftP_R ht ?_)
  simp only [validP, validD, Bool.and_eq_true, List.all_eq_true] at hv
  have h1 := hv.1.1.1 d hd
  simp only [goodD, Bool.and_eq_true, List.all_eq_true] at h1
  have h2 := h1.1.2 c hc
  simp only [chGood, Bool.and_eq_true, decide_eq_true_eq] at h2
  exact h2
theorem rrest_all {ds : List Dom} {r : Rul} (hl : ∀ d ∈ ds, d.len = d.chs.length) (h : validR ds r = true) : rrestF ds r (ds.map Dom.st) = ((ds.map Dom.say, r), 0) := by
  have hp : validP ds r = true := by rw [valid_eq hl]; exact h
  obtain ⟨hs, _, _, _⟩ := valid_st hp
  have hi := valid_inc hp
  have hok : stOk (ds.map Dom.st) = true := by
    unfold stOk
    rw [(inc_cmpF _).2 hi, Bool.and_true, List.all_eq_true]
    intro x hx
    have := hs x hx
    simp only [stF, Bool.and_eq_true, decide_eq_true_eq]; omega
  unfold rrestF
  rw [if_pos ⟨h, hok⟩, if_pos (by rw [List.all_eq_true]; intro x hx; rw [inD_mem]; simpa using hx)]
  have hf : (ds.filter fun d => hasL (ds.map Dom.st) d.st) = ds := List.filter_eq_self.2 (fun d hd => by rw [hasL_mem]; simpa using ⟨d, hd, rfl⟩)
  rw [hf]
  simp only [validP, Bool.and_eq_true] at hp
  obtain ⟨_, h1, h2, h3⟩ := hp
  have hc : ∀ x, hasL (ds.map Dom.st) x = hasS (stS (ds.map Dom.st)) x := fun x => by rw [hasL_mem, hasS_mem hs]
  congr 2
  unfold keepR
  simp only [hc]
  rw [filter_all h1, filter_all h2, filter_all h3]

set_option maxRecDepth 100000 in
set_option maxHeartbeats 16000000 in
theorem bandLimits_walk (w : World) (hT : Tab w) (s : PrbS) (ds : List Dom) (r : Rul) (R0 : PrbAt w w.heap.size s ds r ∧ s.nd ≤ 9223372036854775807) (t : Int) (_ : I64 t) :
    Calls Tryd.prog 3 #[s.val, .int .i64 t] w fun e w' => e = .returned (.bool true) ∧ Below w.heap.size w w' := by
  obtain ⟨A, n, c, ⟨A0, n0, c0, A1, n1, c1, A2, n2, c2⟩⟩ := s
  obtain ⟨W0, hW0⟩ : ∃ W0, W0 = w.alloc (.cells #[.slice A n c, .slice A0 n0 c0, .slice A1 n1 c1, .slice A2 n2 c2] 29) := ⟨_, rfl⟩
  have HB0 : Hid (Below w.heap.size w W0) := Lib.hid (by rw [hW0]; exact (Below.refl _ w).alloc (Nat.le_refl _) _)
  have hX : Blk W0 w.heap.size 29 [.slice A n c, .slice A0 n0 c0, .slice A1 n1 c1, .slice A2 n2 c2] := by rw [hW0]; exact blk_new w _ _
  have HX := Lib.hid hX
  have HPA : Hid (∀ W, Below W0.heap.size W0 W → PrbAt W W.heap.size ⟨A, n, c, ⟨A0, n0, c0, A1, n1, c1, A2, n2, c2⟩⟩ ds r) := Lib.hid (fun W hb => ⟨(R0.1.1.keep HB0.out).keep hb, (R0.1.2.keep HB0.out).keep hb⟩)
  have HBW : Hid (∀ W, Below W0.heap.size W0 W → Below w.heap.size w W) := Lib.hid (fun W hb => HB0.out.trans (hb.mono HB0.out.size))
  have HTB : Hid (∀ W, Below W0.heap.size W0 W → Tab W) := Lib.hid (fun W hb => hT.keep (HBW.out W hb))
  have HK := Lib.hid (fun W => known_any W)
  have HTO := Lib.hid (fun n w => to_any n w)
  have HAT := Lib.hid (fun W => at_any t W)
  have HN := Lib.hid R0.2
  have HSM := Lib.hid (small_any ⟨A, n, c, ⟨A0, n0, c0, A1, n1, c1, A2, n2, c2⟩⟩ 12 40 W0 ds r R0.2 (HPA.out W0 (Below.refl _ _)))
  have hel0 : ∀ d ∈ ds, d.len = d.chs.length := fun d hd => (R0.1.1.2 d hd).1.symm
  have HEL := Lib.hid hel0
  have q0 : W0.cell? ⟨w.heap.size, 0, none⟩ = some (.slice A n c) := hX.cell rfl
  have q1 : W0.cell? ⟨w.heap.size, 1, none⟩ = some (.slice A0 n0 c0) := hX.cell rfl
  have q2 : W0.cell? ⟨w.heap.size, 2, none⟩ = some (.slice A1 n1 c1) := hX.cell rfl
  have q3 : W0.cell? ⟨w.heap.size, 3, none⟩ = some (.slice A2 n2 c2) := hX.cell rfl
  have q4 := hX.lt
  have hnl : ds.length = n := R0.1.1.1.1
  have HNL := Eqn.mk hnl
  unfold PrbS.val at HSM ⊢
  dsimp only at *
  clear R0 hX hT hel0 hnl
  go_enter Tryd.func3, Tryd.ntmps3
  go_upto_region 1 with fail
  rw [← hW0]
  clear hW0
  go_wp2_with fail
  refine HSM.out.mono ?_
  rintro e B1 ⟨rfl, hb1⟩
  have HB1 := Lib.hid hb1
  clear q0 q1 q2 q3 q4 HSM
  cases hsm : smF ds r 12 40 with
  | false =>
    clear hb1
    go_wp2_with fail
    refine (HK.out _).mono ?_
    rintro e W2 ⟨rfl, hb2⟩
    have HB2 := Lib.hid (HB1.out.trans (hb2.mono HB1.out.size))
    clear hb2
    go_wp2_with fail
    go_ret
    exact ⟨rfl, HBW.out _ HB2.out⟩
  | true =>
    obtain ⟨m0', m1', m2', m3', m4'⟩ := smF_spec (by decide) hsm
    have hdl : ∀ d ∈ ds, d.len ≤ 9223372036854775807 := fun d hd => Nat.le_trans (m1' d hd) (by decide)
    have HM : Hid (ds.length ≤ 12 ∧ (∀ x ∈ ds, x.len ≤ 60)) := Lib.hid ⟨by omega, m1'⟩
    have HC1 : Hid (∀ X, Below B1.heap.size B1 X → X.cell? ⟨w.heap.size, 0, none⟩ = some (.slice A n c) ∧ X.cell? ⟨w.heap.size, 1, none⟩ = some (.slice A0 n0 c0) ∧ X.cell? ⟨w.heap.size, 2, none⟩ = some (.slice A1 n1 c1) ∧ X.cell? ⟨w.heap.size, 3, none⟩ = some (.slice A2 n2 c2)) := Lib.hid (fun X h => by
      have hx := HX.out.keep (hb1.trans (h.mono hb1.size))
      exact ⟨hx.cell rfl, hx.cell rfl, hx.cell rfl, hx.cell rfl⟩)
    have HBX : Hid (∀ X, Below B1.heap.size B1 X → Below W0.heap.size W0 X) := Lib.hid (fun X h => hb1.trans (h.mono hb1.size))
    have HSA : Hid (∀ W, Below B1.heap.size B1 W → Calls Tryd.prog 8 #[.agg #[.slice A n c, .slice A0 n0 c0, .slice A1 n1 c1, .slice A2 n2 c2]] W (NewInts (ds.map Dom.st) W)) := Lib.hid (fun W hb => rstations_any ⟨A, n, c, ⟨A0, n0, c0, A1, n1, c1, A2, n2, c2⟩⟩ W ds (by have := HNL.out; dsimp only; omega) (HPA.out W (HBX.out W hb)).1.1)
    have HRE : Hid (∀ (Aa : Option Addr) (ca : Nat) W, Below B1.heap.size B1 W → Row1 intV W W.heap.size Aa (ds.map Dom.st).length (ds.map Dom.st) → Calls Tryd.prog 7 #[.agg #[.slice A n c, .slice A0 n0 c0, .slice A1 n1 c1, .slice A2 n2 c2], .slice Aa (ds.map Dom.st).length ca] W (PrbPost (rrestF ds r (ds.map Dom.st)) W)) := Lib.hid (fun Aa ca W hb hr => rrestrict_any ⟨A, n, c, ⟨A0, n0, c0, A1, n1, c1, A2, n2, c2⟩⟩ Aa _ ca W ds r (ds.map Dom.st) (by dsimp only; exact HN.out) (by rw [List.length_map]; omega) (HPA.out W (HBX.out W hb)) hr)
    have HLI : Hid (∀ W, Below B1.heap.size B1 W → Calls Tryd.prog 9 #[.agg #[.slice A n c, .slice A0 n0 c0, .slice A1 n1 c1, .slice A2 n2 c2], .agg #[.int .i64 t]] W (PrbNew (limF ds r t) W)) := Lib.hid (fun W hb => limit_any ⟨A, n, c, ⟨A0, n0, c0, A1, n1, c1, A2, n2, c2⟩⟩ t W (HTB.out W (HBX.out W hb)) ds r (by dsimp only; exact HN.out) hdl (HPA.out W (HBX.out W hb)))
    have HVL : Hid (∀ W, Below B1.heap.size B1 W → Calls Tryd.prog 11 #[.agg #[.slice A n c, .slice A0 n0 c0, .slice A1 n1 c1, .slice A2 n2 c2]] W (RetPost (.bool (validR ds r)) W.heap.size W)) := Lib.hid (fun W hb => rvalid_any ⟨A, n, c, ⟨A0, n0, c0, A1, n1, c1, A2, n2, c2⟩⟩ W ds r (by dsimp only; exact HN.out) (HPA.out W (HBX.out W hb)))
    have HRL : Hid (∀ W, Below B1.heap.size B1 W → Calls Tryd.prog 14 #[.agg #[.slice A n c, .slice A0 n0 c0, .slice A1 n1 c1, .slice A2 n2 c2], .agg #[.int .i64 t]] W (PrbRet (ds.map (limR t), r) W)) := Lib.hid (fun W hb => rlimit_any ⟨A, n, c, ⟨A0, n0, c0, A1, n1, c1, A2, n2, c2⟩⟩ t W ds r (by have := HNL.out; dsimp only; omega) (fun d hd => Nat.le_trans (HM.out.2 d hd) (by decide)) (HPA.out W (HBX.out W hb)))
    have HDR : Hid (Below B1.heap.size B1 B1.drew) := Lib.hid (Below.refl _ _).drew
    have HDA : Hid (Below B1.heap.size B1 (B1.alloc (.cells #[.slice none 0 0, .slice none 0 0, .slice none 0 0, .slice none 0 0] 29)).drew) := Lib.hid ((Below.refl _ B1).alloc (Nat.le_refl _) _).drew
    unfold NewInts at HSA
    unfold PrbPost at HRE
    unfold PrbNew at HLI
    have HRQ : Hid (validR ds r = true → rrestF ds r (ds.map Dom.st) = ((ds.map Dom.say, r), 0)) := Lib.hid (fun h => rrest_all HEL.out h)
    generalize rrestF ds r (ds.map Dom.st) = RF at *
    generalize (ds.map Dom.st).length = N at *
    generalize ds.map Dom.st = L at *
    clear hb1 hsm m0' m1' m2' m3' m4' hdl
    go_upto_region 3 with fail
    go_cut [5, 6] from 13 (fun s5 s6 wx => ∃ (g : Nat) (s' : PrbS) (es : List Dom), s5 = .pointer (some ⟨g, 0, none⟩) ∧ s6 = .int .i64 RF.2 ∧ Blk wx g 29 (ss4 s') ∧ PrbAt wx wx.heap.size s' es RF.1.2 ∧ es.map Dom.say = RF.1.1 ∧ Below B1.heap.size B1 wx)
    case first =>
      refine Lx.regionA (C := fun X => X.cell? ⟨w.heap.size, 0, none⟩ = some (.slice A n c) ∧ X.cell? ⟨w.heap.size, 1, none⟩ = some (.slice A0 n0 c0) ∧ X.cell? ⟨w.heap.size, 2, none⟩ = some (.slice A1 n1 c1) ∧ X.cell? ⟨w.heap.size, 3, none⟩ = some (.slice A2 n2 c2)) (hs := [0, 1]) (.op 0 (.op 1 (.alt (.op 2 (.alt (.op 3 (.op 4 (.op 5 (.op 6 (.op 7 (.op 8 (.op 9 .done))))))) (.op 7 (.op 3 (.op 4 (.op 5 (.op 6 (.op 8 (.op 9 .done))))))))) (.op 7 (.op 2 (.op 3 (.op 4 (.op 5 (.op 6 (.op 8 (.op 9 .done))))))))))) (by kernel_rfl) (by kernel_rfl) (HC1.out _ HDR.out) ?_
      dsimp only [Lx.numbT, List.getElem?_cons_zero, List.getElem?_cons_succ]
      repeat' (first
        | (refine Lx.lexO_no (Lx.n1 rfl rfl rfl (by with_reducible rfl)) (fun K hK => ?_); go_simp; refine hK _ ?_; clear hK K)
        | (refine Lx.lexO_no (Lx.n0 rfl rfl rfl (by with_reducible rfl)) (fun K hK => ?_); go_simp; refine hK _ ?_; clear hK K)
        | (refine Lx.lexO_no (Lx.n2 rfl rfl rfl) (fun K hK => ?_); go_simp; refine hK _ ?_; clear hK K)
        | (refine Lx.lexO_pure (v := ?_) rfl (by first | exact Lx.w0 rfl | exact Lx.w1 rfl rfl rfl (by with_reducible rfl)) ?_ (fun K hK => ?_); rotate_left 1; (intro w' hCw; (try dsimp only at hCw); go_simp; done); go_simp; refine hK _ ?_; clear hK K)
        | (refine Lx.lexO_pure (v := ?_) rfl (by first | exact Lx.w0 rfl | exact Lx.w1 rfl rfl rfl (by with_reducible rfl)) ?_ (fun K hK => ?_); rotate_left 1; (intro w' hCw; (try dsimp only at hCw); go_simp; with_reducible rfl); go_simp; refine hK _ ?_; clear hK K)
        | (refine Lx.lexO_read (v := ?_) rfl (by first | exact Lx.w0 rfl | exact Lx.w1 rfl rfl rfl (by with_reducible rfl)) ?_ (fun K hK => ?_); rotate_left 1; (go_simp; done); go_simp; refine hK _ ?_; clear hK K)
        | (refine Lx.lexO_read (v := ?_) rfl (by first | exact Lx.w0 rfl | exact Lx.w1 rfl rfl rfl (by with_reducible rfl)) ?_ (fun K hK => ?_); rotate_left 1; (go_simp; with_reducible rfl); go_simp; refine hK _ ?_; clear hK K)
        | (refine Lx.lexO_eff rfl (by first | exact Lx.w0 rfl | exact Lx.w1 rfl rfl rfl (by with_reducible rfl)) (fun K hK => ?_); go_simp; (first | fail | skip); refine hK _ _ (by first | exact HC1.out _ hbs4 | exact HC1.out _ hbs2 | exact HC1.out _ hbb2 | exact HC1.out _ hba2 | exact HC1.out _ hba1 | exact HC1.out _ HDA.out) ?_; clear hK K))
      refine Lx.lexO_alt ?_ ?_
      · skip
        repeat' (first
          | (refine Lx.lexO_no (Lx.n1 rfl rfl rfl (by with_reducible rfl)) (fun K hK => ?_); go_simp; refine hK _ ?_; clear hK K)
          | (refine Lx.lexO_no (Lx.n0 rfl rfl rfl (by with_reducible rfl)) (fun K hK => ?_); go_simp; refine hK _ ?_; clear hK K)
          | (refine Lx.lexO_no (Lx.n2 rfl rfl rfl) (fun K hK => ?_); go_simp; refine hK _ ?_; clear hK K)
          | (refine Lx.lexO_pure (v := ?_) rfl (by first | exact Lx.w0 rfl | exact Lx.w1 rfl rfl rfl (by with_reducible rfl)) ?_ (fun K hK => ?_); rotate_left 1; (intro w' hCw; (try dsimp only at hCw); go_simp; done); go_simp; refine hK _ ?_; clear hK K)
          | (refine Lx.lexO_pure (v := ?_) rfl (by first | exact Lx.w0 rfl | exact Lx.w1 rfl rfl rfl (by with_reducible rfl)) ?_ (fun K hK => ?_); rotate_left 1; (intro w' hCw; (try dsimp only at hCw); go_simp; with_reducible rfl); go_simp; refine hK _ ?_; clear hK K)
          | (refine Lx.lexO_read (v := ?_) rfl (by first | exact Lx.w0 rfl | exact Lx.w1 rfl rfl rfl (by with_reducible rfl)) ?_ (fun K hK => ?_); rotate_left 1; (go_simp; done); go_simp; refine hK _ ?_; clear hK K)
          | (refine Lx.lexO_read (v := ?_) rfl (by first | exact Lx.w0 rfl | exact Lx.w1 rfl rfl rfl (by with_reducible rfl)) ?_ (fun K hK => ?_); rotate_left 1; (go_simp; with_reducible rfl); go_simp; refine hK _ ?_; clear hK K)
          | (refine Lx.lexO_eff rfl (by first | exact Lx.w0 rfl | exact Lx.w1 rfl rfl rfl (by with_reducible rfl)) (fun K hK => ?_); go_simp; (first | (go_at_call 8; refine (HSA.out _ HDR.out).mono ?_; rintro e Wa ⟨v, rfl, hown, hba⟩; obtain ⟨Aa, ca, rfl, hra⟩ := row1_of_own hown; have hba1 : Below B1.heap.size B1 Wa := HDR.out.trans (hba.mono HDR.out.size)) | skip); refine hK _ _ (by first | exact HC1.out _ hbs4 | exact HC1.out _ hbs2 | exact HC1.out _ hbb2 | exact HC1.out _ hba2 | exact HC1.out _ hba1 | exact HC1.out _ HDA.out) ?_; clear hK K))
        refine Lx.lexO_alt ?_ ?_
        · skip
          repeat' (first
            | (refine Lx.lexO_no (Lx.n1 rfl rfl rfl (by with_reducible rfl)) (fun K hK => ?_); go_simp; refine hK _ ?_; clear hK K)
            | (refine Lx.lexO_no (Lx.n0 rfl rfl rfl (by with_reducible rfl)) (fun K hK => ?_); go_simp; refine hK _ ?_; clear hK K)
            | (refine Lx.lexO_no (Lx.n2 rfl rfl rfl) (fun K hK => ?_); go_simp; refine hK _ ?_; clear hK K)
            | (refine Lx.lexO_pure (v := ?_) rfl (by first | exact Lx.w0 rfl | exact Lx.w1 rfl rfl rfl (by with_reducible rfl)) ?_ (fun K hK => ?_); rotate_left 1; (intro w' hCw; (try dsimp only at hCw); go_simp; done); go_simp; refine hK _ ?_; clear hK K)
            | (refine Lx.lexO_pure (v := ?_) rfl (by first | exact Lx.w0 rfl | exact Lx.w1 rfl rfl rfl (by with_reducible rfl)) ?_ (fun K hK => ?_); rotate_left 1; (intro w' hCw; (try dsimp only at hCw); go_simp; with_reducible rfl); go_simp; refine hK _ ?_; clear hK K)
            | (refine Lx.lexO_read (v := ?_) rfl (by first | exact Lx.w0 rfl | exact Lx.w1 rfl rfl rfl (by with_reducible rfl)) ?_ (fun K hK => ?_); rotate_left 1; (go_simp; done); go_simp; refine hK _ ?_; clear hK K)
            | (refine Lx.lexO_read (v := ?_) rfl (by first | exact Lx.w0 rfl | exact Lx.w1 rfl rfl rfl (by with_reducible rfl)) ?_ (fun K hK => ?_); rotate_left 1; (go_simp; with_reducible rfl); go_simp; refine hK _ ?_; clear hK K)
            | (refine Lx.lexO_eff rfl (by first | exact Lx.w0 rfl | exact Lx.w1 rfl rfl rfl (by with_reducible rfl)) (fun K hK => ?_); go_simp; (first | (go_at_call 7; refine (HRE.out _ _ _ hba1 hra).mono ?_; rintro e Wb ⟨⟨pa, pn, pc, ⟨B0', m0, d0, B1', m1, d1, B2', m2, d2⟩⟩, es, rfl, hat, hsay, hbb⟩; have hbb2 : Below B1.heap.size B1 Wb := hba1.trans (hbb.mono hba1.size); have hbs2 : Below B1.heap.size B1 (Wb.alloc (.cells #[.slice none 0 0, .slice none 0 0, .slice none 0 0, .slice none 0 0] 29)) := hbb2.alloc hbb2.size _; have hbs4 : Below B1.heap.size B1 (Wb.alloc (.cells #[.slice pa pn pc, .slice B0' m0 d0, .slice B1' m1 d1, .slice B2' m2 d2] 29)) := hbb2.alloc hbb2.size _; unfold PrbS.val; dsimp only) | skip | skip); refine hK _ _ (by first | exact HC1.out _ hbs4 | exact HC1.out _ hbs2 | exact HC1.out _ hbb2 | exact HC1.out _ hba2 | exact HC1.out _ hba1 | exact HC1.out _ HDA.out) ?_; clear hK K))
          all_goals (refine Lx.lexO_done ?_)
          go_wp2_with fail
          go_meet
          exact ⟨_, ⟨pa, pn, pc, ⟨B0', m0, d0, B1', m1, d1, B2', m2, d2⟩⟩, es, rfl, rfl, blk_new _ _ _, hat.keep ((Below.refl _ _).alloc (Nat.le_refl _) _), hsay, hbs4⟩
        · skip
          repeat' (first
            | (refine Lx.lexO_no (Lx.n1 rfl rfl rfl (by with_reducible rfl)) (fun K hK => ?_); go_simp; refine hK _ ?_; clear hK K)
            | (refine Lx.lexO_no (Lx.n0 rfl rfl rfl (by with_reducible rfl)) (fun K hK => ?_); go_simp; refine hK _ ?_; clear hK K)
            | (refine Lx.lexO_no (Lx.n2 rfl rfl rfl) (fun K hK => ?_); go_simp; refine hK _ ?_; clear hK K)
            | (refine Lx.lexO_pure (v := ?_) rfl (by first | exact Lx.w0 rfl | exact Lx.w1 rfl rfl rfl (by with_reducible rfl)) ?_ (fun K hK => ?_); rotate_left 1; (intro w' hCw; (try dsimp only at hCw); go_simp; done); go_simp; refine hK _ ?_; clear hK K)
            | (refine Lx.lexO_pure (v := ?_) rfl (by first | exact Lx.w0 rfl | exact Lx.w1 rfl rfl rfl (by with_reducible rfl)) ?_ (fun K hK => ?_); rotate_left 1; (intro w' hCw; (try dsimp only at hCw); go_simp; with_reducible rfl); go_simp; refine hK _ ?_; clear hK K)
            | (refine Lx.lexO_read (v := ?_) rfl (by first | exact Lx.w0 rfl | exact Lx.w1 rfl rfl rfl (by with_reducible rfl)) ?_ (fun K hK => ?_); rotate_left 1; (go_simp; done); go_simp; refine hK _ ?_; clear hK K)
            | (refine Lx.lexO_read (v := ?_) rfl (by first | exact Lx.w0 rfl | exact Lx.w1 rfl rfl rfl (by with_reducible rfl)) ?_ (fun K hK => ?_); rotate_left 1; (go_simp; with_reducible rfl); go_simp; refine hK _ ?_; clear hK K)
            | (refine Lx.lexO_eff rfl (by first | exact Lx.w0 rfl | exact Lx.w1 rfl rfl rfl (by with_reducible rfl)) (fun K hK => ?_); go_simp; (first | (go_at_call 7; refine (HRE.out _ _ _ (hba1.alloc hba1.size _) (hra.keep ((Below.refl _ _).alloc (Nat.le_refl _) _))).mono ?_; rintro e Wb ⟨⟨pa, pn, pc, ⟨B0', m0, d0, B1', m1, d1, B2', m2, d2⟩⟩, es, rfl, hat, hsay, hbb⟩; have hba2 : Below B1.heap.size B1 (Wa.alloc (.cells #[.slice none 0 0, .slice none 0 0, .slice none 0 0, .slice none 0 0] 29)) := hba1.alloc hba1.size _; have hbb2 : Below B1.heap.size B1 Wb := hba2.trans (hbb.mono hba2.size); have hblk : Blk Wb Wa.heap.size 29 [.slice none 0 0, .slice none 0 0, .slice none 0 0, .slice none 0 0] := (blk_new Wa _ _).keep hbb; have HST4 := Lib.hid (prb_store hat hblk hbb2 hba1.size); have hbs4 := HST4.out.2.2; have f0 := hblk.cell (i := 0) rfl; have f1 := hblk.cell (i := 1) rfl; have f2 := hblk.cell (i := 2) rfl; have f3 := hblk.cell (i := 3) rfl; have f4 := hblk.lt; have f5 : ∀ o, Wb.frozen? ⟨Wa.heap.size, o, none⟩ = false := hblk.frozen; unfold PrbS.val; dsimp only) | (have hba2 : Below B1.heap.size B1 (Wa.alloc (.cells #[.slice none 0 0, .slice none 0 0, .slice none 0 0, .slice none 0 0] 29)) := hba1.alloc hba1.size _) | skip | skip); refine hK _ _ (by first | exact HC1.out _ hbs4 | exact HC1.out _ hbs2 | exact HC1.out _ hbb2 | exact HC1.out _ hba2 | exact HC1.out _ hba1 | exact HC1.out _ HDA.out) ?_; clear hK K))
          all_goals (refine Lx.lexO_done ?_)
          go_wp2_with fail
          go_meet
          obtain ⟨k1, k2, k3⟩ := HST4.out
          exact ⟨_, ⟨pa, pn, pc, ⟨B0', m0, d0, B1', m1, d1, B2', m2, d2⟩⟩, es, rfl, rfl, k1, PrbAt.up k2 (by simp), hsay, k3⟩
      · skip
        repeat' (first
          | (refine Lx.lexO_no (Lx.n1 rfl rfl rfl (by with_reducible rfl)) (fun K hK => ?_); go_simp; refine hK _ ?_; clear hK K)
          | (refine Lx.lexO_no (Lx.n0 rfl rfl rfl (by with_reducible rfl)) (fun K hK => ?_); go_simp; refine hK _ ?_; clear hK K)
          | (refine Lx.lexO_no (Lx.n2 rfl rfl rfl) (fun K hK => ?_); go_simp; refine hK _ ?_; clear hK K)
          | (refine Lx.lexO_pure (v := ?_) rfl (by first | exact Lx.w0 rfl | exact Lx.w1 rfl rfl rfl (by with_reducible rfl)) ?_ (fun K hK => ?_); rotate_left 1; (intro w' hCw; (try dsimp only at hCw); go_simp; done); go_simp; refine hK _ ?_; clear hK K)
          | (refine Lx.lexO_pure (v := ?_) rfl (by first | exact Lx.w0 rfl | exact Lx.w1 rfl rfl rfl (by with_reducible rfl)) ?_ (fun K hK => ?_); rotate_left 1; (intro w' hCw; (try dsimp only at hCw); go_simp; with_reducible rfl); go_simp; refine hK _ ?_; clear hK K)
          | (refine Lx.lexO_read (v := ?_) rfl (by first | exact Lx.w0 rfl | exact Lx.w1 rfl rfl rfl (by with_reducible rfl)) ?_ (fun K hK => ?_); rotate_left 1; (go_simp; done); go_simp; refine hK _ ?_; clear hK K)
          | (refine Lx.lexO_read (v := ?_) rfl (by first | exact Lx.w0 rfl | exact Lx.w1 rfl rfl rfl (by with_reducible rfl)) ?_ (fun K hK => ?_); rotate_left 1; (go_simp; with_reducible rfl); go_simp; refine hK _ ?_; clear hK K)
          | (refine Lx.lexO_eff rfl (by first | exact Lx.w0 rfl | exact Lx.w1 rfl rfl rfl (by with_reducible rfl)) (fun K hK => ?_); go_simp; (first | (go_at_call 8; refine (HSA.out _ HDA.out).mono ?_; rintro e Wa ⟨v, rfl, hown, hba⟩; obtain ⟨Aa, ca, rfl, hra⟩ := row1_of_own hown; have hba1 : Below B1.heap.size B1 Wa := HDA.out.trans (hba.mono HDA.out.size)) | (go_at_call 7; refine (HRE.out _ _ _ hba1 hra).mono ?_; rintro e Wb ⟨⟨pa, pn, pc, ⟨B0', m0, d0, B1', m1, d1, B2', m2, d2⟩⟩, es, rfl, hat, hsay, hbb⟩; have hbb2 : Below B1.heap.size B1 Wb := hba1.trans (hbb.mono hba1.size); have hblk : Blk Wb B1.heap.size 29 [.slice none 0 0, .slice none 0 0, .slice none 0 0, .slice none 0 0] := Blk.keep (Blk.keep (w := (B1.alloc (.cells #[.slice none 0 0, .slice none 0 0, .slice none 0 0, .slice none 0 0] 29)).drew) (blk_new B1 _ _) hba) hbb; have HST4 := Lib.hid (prb_store hat hblk hbb2 (Nat.le_refl _)); have hbs4 := HST4.out.2.2; have f0 := hblk.cell (i := 0) rfl; have f1 := hblk.cell (i := 1) rfl; have f2 := hblk.cell (i := 2) rfl; have f3 := hblk.cell (i := 3) rfl; have f4 := hblk.lt; have f5 : ∀ o, Wb.frozen? ⟨B1.heap.size, o, none⟩ = false := hblk.frozen; unfold PrbS.val; dsimp only) | skip | skip); refine hK _ _ (by first | exact HC1.out _ hbs4 | exact HC1.out _ hbs2 | exact HC1.out _ hbb2 | exact HC1.out _ hba2 | exact HC1.out _ hba1 | exact HC1.out _ HDA.out) ?_; clear hK K))
        all_goals (refine Lx.lexO_done ?_)
        go_wp2_with fail
        go_meet
        obtain ⟨k1, k2, k3⟩ := HST4.out
        exact ⟨_, ⟨pa, pn, pc, ⟨B0', m0, d0, B1', m1, d1, B2', m2, d2⟩⟩, es, rfl, rfl, k1, PrbAt.up k2 (by simp), hsay, k3⟩
    case rest =>
      obtain ⟨g5, ⟨oa, on_, oc, ⟨O0, u0, p0, O1, u1, p1, O2, u2, p2⟩⟩, eo, rfl, rfl, hblk, hat, hsay, hbx⟩ := hcut
      obtain ⟨B2, rfl⟩ : ∃ B2 : World, B2 = wc := ⟨_, rfl⟩
      have HO5 := Lib.hid hblk
      have HOA := Lib.hid hat
      have HOS := Eqn.mk hsay
      have HB12 := Lib.hid hbx
      have HC2 : Hid (∀ X, Below B2.heap.size B2 X → X.cell? ⟨w.heap.size, 0, none⟩ = some (.slice A n c) ∧ X.cell? ⟨w.heap.size, 1, none⟩ = some (.slice A0 n0 c0) ∧ X.cell? ⟨w.heap.size, 2, none⟩ = some (.slice A1 n1 c1) ∧ X.cell? ⟨w.heap.size, 3, none⟩ = some (.slice A2 n2 c2)) := Lib.hid (fun X h => HC1.out X (HB12.out.trans (h.mono HB12.out.size)))
      have HLI2 : Hid (∀ W, Below B2.heap.size B2 W → Calls Tryd.prog 9 #[.agg #[.slice A n c, .slice A0 n0 c0, .slice A1 n1 c1, .slice A2 n2 c2], .agg #[.int .i64 t]] W (fun e w' => ∃ s ds_1, e = .returned (.tuple #[PrbS.val s, .int .i64 (limF ds r t).2]) ∧ PrbOwn W.heap.size s ds_1 (limF ds r t).1.2 w' ∧ ds_1.map Dom.say = (limF ds r t).1.1 ∧ Below W.heap.size W w')) := Lib.hid (fun W h => HLI.out W (HB12.out.trans (h.mono HB12.out.size)))
      have HDR2 : Hid (Below B2.heap.size B2 B2.drew) := Lib.hid (Below.refl _ _).drew
      have HDA2 : Hid (Below B2.heap.size B2 (B2.alloc (.cells #[.slice none 0 0, .slice none 0 0, .slice none 0 0, .slice none 0 0] 29)).drew) := Lib.hid ((Below.refl _ B2).alloc (Nat.le_refl _) _).drew
      clear hblk hat hsay hbx HSA HRE HLI
      go_upto_region 4 with fail
      go_cut [7, 8] from 20 (fun s7 s8 wx => ∃ (g : Nat) (s' : PrbS) (es : List Dom), s7 = .pointer (some ⟨g, 0, none⟩) ∧ s8 = .int .i64 (limF ds r t).2 ∧ Blk wx g 29 (ss4 s') ∧ PrbAt wx wx.heap.size s' es (limF ds r t).1.2 ∧ es.map Dom.say = (limF ds r t).1.1 ∧ Below B2.heap.size B2 wx)
      case first =>
        refine Lx.regionA (C := fun X => X.cell? ⟨w.heap.size, 0, none⟩ = some (.slice A n c) ∧ X.cell? ⟨w.heap.size, 1, none⟩ = some (.slice A0 n0 c0) ∧ X.cell? ⟨w.heap.size, 2, none⟩ = some (.slice A1 n1 c1) ∧ X.cell? ⟨w.heap.size, 3, none⟩ = some (.slice A2 n2 c2)) (hs := [0]) (.op 0 (.op 1 (.alt (.op 2 (.alt (.op 3 (.op 4 (.op 5 (.op 6 (.op 7 (.op 8 (.op 9 .done))))))) (.op 7 (.op 3 (.op 4 (.op 5 (.op 6 (.op 8 (.op 9 .done))))))))) (.op 7 (.op 2 (.op 3 (.op 4 (.op 5 (.op 6 (.op 8 (.op 9 .done))))))))))) (by kernel_rfl) (by kernel_rfl) (HC2.out _ HDR2.out) ?_
        dsimp only [Lx.numbT, List.getElem?_cons_zero, List.getElem?_cons_succ]
        repeat' (first
          | (refine Lx.lexO_no (Lx.n1 rfl rfl rfl (by with_reducible rfl)) (fun K hK => ?_); go_simp; refine hK _ ?_; clear hK K)
          | (refine Lx.lexO_no (Lx.n0 rfl rfl rfl (by with_reducible rfl)) (fun K hK => ?_); go_simp; refine hK _ ?_; clear hK K)
          | (refine Lx.lexO_no (Lx.n2 rfl rfl rfl) (fun K hK => ?_); go_simp; refine hK _ ?_; clear hK K)
          | (refine Lx.lexO_pure (v := ?_) rfl (by first | exact Lx.w0 rfl | exact Lx.w1 rfl rfl rfl (by with_reducible rfl)) ?_ (fun K hK => ?_); rotate_left 1; (intro w' hCw; (try dsimp only at hCw); go_simp; done); go_simp; refine hK _ ?_; clear hK K)
          | (refine Lx.lexO_pure (v := ?_) rfl (by first | exact Lx.w0 rfl | exact Lx.w1 rfl rfl rfl (by with_reducible rfl)) ?_ (fun K hK => ?_); rotate_left 1; (intro w' hCw; (try dsimp only at hCw); go_simp; with_reducible rfl); go_simp; refine hK _ ?_; clear hK K)
          | (refine Lx.lexO_read (v := ?_) rfl (by first | exact Lx.w0 rfl | exact Lx.w1 rfl rfl rfl (by with_reducible rfl)) ?_ (fun K hK => ?_); rotate_left 1; (go_simp; done); go_simp; refine hK _ ?_; clear hK K)
          | (refine Lx.lexO_read (v := ?_) rfl (by first | exact Lx.w0 rfl | exact Lx.w1 rfl rfl rfl (by with_reducible rfl)) ?_ (fun K hK => ?_); rotate_left 1; (go_simp; with_reducible rfl); go_simp; refine hK _ ?_; clear hK K)
          | (refine Lx.lexO_eff rfl (by first | exact Lx.w0 rfl | exact Lx.w1 rfl rfl rfl (by with_reducible rfl)) (fun K hK => ?_); go_simp; (first | fail | skip); refine hK _ _ (by first | exact HC2.out _ hbs4 | exact HC2.out _ hbs2 | exact HC2.out _ hbb2 | exact HC2.out _ hba2 | exact HC2.out _ hba1 | exact HC2.out _ HDA2.out) ?_; clear hK K))
        refine Lx.lexO_alt ?_ ?_
        · skip
          repeat' (first
            | (refine Lx.lexO_no (Lx.n1 rfl rfl rfl (by with_reducible rfl)) (fun K hK => ?_); go_simp; refine hK _ ?_; clear hK K)
            | (refine Lx.lexO_no (Lx.n0 rfl rfl rfl (by with_reducible rfl)) (fun K hK => ?_); go_simp; refine hK _ ?_; clear hK K)
            | (refine Lx.lexO_no (Lx.n2 rfl rfl rfl) (fun K hK => ?_); go_simp; refine hK _ ?_; clear hK K)
            | (refine Lx.lexO_pure (v := ?_) rfl (by first | exact Lx.w0 rfl | exact Lx.w1 rfl rfl rfl (by with_reducible rfl)) ?_ (fun K hK => ?_); rotate_left 1; (intro w' hCw; (try dsimp only at hCw); go_simp; done); go_simp; refine hK _ ?_; clear hK K)
            | (refine Lx.lexO_pure (v := ?_) rfl (by first | exact Lx.w0 rfl | exact Lx.w1 rfl rfl rfl (by with_reducible rfl)) ?_ (fun K hK => ?_); rotate_left 1; (intro w' hCw; (try dsimp only at hCw); go_simp; with_reducible rfl); go_simp; refine hK _ ?_; clear hK K)
            | (refine Lx.lexO_read (v := ?_) rfl (by first | exact Lx.w0 rfl | exact Lx.w1 rfl rfl rfl (by with_reducible rfl)) ?_ (fun K hK => ?_); rotate_left 1; (go_simp; done); go_simp; refine hK _ ?_; clear hK K)
            | (refine Lx.lexO_read (v := ?_) rfl (by first | exact Lx.w0 rfl | exact Lx.w1 rfl rfl rfl (by with_reducible rfl)) ?_ (fun K hK => ?_); rotate_left 1; (go_simp; with_reducible rfl); go_simp; refine hK _ ?_; clear hK K)
            | (refine Lx.lexO_eff rfl (by first | exact Lx.w0 rfl | exact Lx.w1 rfl rfl rfl (by with_reducible rfl)) (fun K hK => ?_); go_simp; (first | (go_at_call 10; refine (HTO.out _ _).mono ?_; rintro e Wa ⟨rfl, hba⟩; have hba1 : Below B2.heap.size B2 Wa := HDR2.out.trans (hba.mono HDR2.out.size)) | skip); refine hK _ _ (by first | exact HC2.out _ hbs4 | exact HC2.out _ hbs2 | exact HC2.out _ hbb2 | exact HC2.out _ hba2 | exact HC2.out _ hba1 | exact HC2.out _ HDA2.out) ?_; clear hK K))
          refine Lx.lexO_alt ?_ ?_
          · skip
            repeat' (first
              | (refine Lx.lexO_no (Lx.n1 rfl rfl rfl (by with_reducible rfl)) (fun K hK => ?_); go_simp; refine hK _ ?_; clear hK K)
              | (refine Lx.lexO_no (Lx.n0 rfl rfl rfl (by with_reducible rfl)) (fun K hK => ?_); go_simp; refine hK _ ?_; clear hK K)
              | (refine Lx.lexO_no (Lx.n2 rfl rfl rfl) (fun K hK => ?_); go_simp; refine hK _ ?_; clear hK K)
              | (refine Lx.lexO_pure (v := ?_) rfl (by first | exact Lx.w0 rfl | exact Lx.w1 rfl rfl rfl (by with_reducible rfl)) ?_ (fun K hK => ?_); rotate_left 1; (intro w' hCw; (try dsimp only at hCw); go_simp; done); go_simp; refine hK _ ?_; clear hK K)
              | (refine Lx.lexO_pure (v := ?_) rfl (by first | exact Lx.w0 rfl | exact Lx.w1 rfl rfl rfl (by with_reducible rfl)) ?_ (fun K hK => ?_); rotate_left 1; (intro w' hCw; (try dsimp only at hCw); go_simp; with_reducible rfl); go_simp; refine hK _ ?_; clear hK K)
              | (refine Lx.lexO_read (v := ?_) rfl (by first | exact Lx.w0 rfl | exact Lx.w1 rfl rfl rfl (by with_reducible rfl)) ?_ (fun K hK => ?_); rotate_left 1; (go_simp; done); go_simp; refine hK _ ?_; clear hK K)
              | (refine Lx.lexO_read (v := ?_) rfl (by first | exact Lx.w0 rfl | exact Lx.w1 rfl rfl rfl (by with_reducible rfl)) ?_ (fun K hK => ?_); rotate_left 1; (go_simp; with_reducible rfl); go_simp; refine hK _ ?_; clear hK K)
              | (refine Lx.lexO_eff rfl (by first | exact Lx.w0 rfl | exact Lx.w1 rfl rfl rfl (by with_reducible rfl)) (fun K hK => ?_); go_simp; (first | (go_at_call 9; refine (HLI2.out _ hba1).mono ?_; rintro e Wb ⟨⟨pa, pn, pc, ⟨B0', m0, d0, B1', m1, d1, B2', m2, d2⟩⟩, es, rfl, hpo, hsay, hbb⟩; have hat := hpo.at; have hbb2 : Below B2.heap.size B2 Wb := hba1.trans (hbb.mono hba1.size); have hbs2 : Below B2.heap.size B2 (Wb.alloc (.cells #[.slice none 0 0, .slice none 0 0, .slice none 0 0, .slice none 0 0] 29)) := hbb2.alloc hbb2.size _; have hbs4 : Below B2.heap.size B2 (Wb.alloc (.cells #[.slice pa pn pc, .slice B0' m0 d0, .slice B1' m1 d1, .slice B2' m2 d2] 29)) := hbb2.alloc hbb2.size _; unfold PrbS.val; dsimp only) | skip | skip); refine hK _ _ (by first | exact HC2.out _ hbs4 | exact HC2.out _ hbs2 | exact HC2.out _ hbb2 | exact HC2.out _ hba2 | exact HC2.out _ hba1 | exact HC2.out _ HDA2.out) ?_; clear hK K))
            all_goals (refine Lx.lexO_done ?_)
            go_wp2_with fail
            go_meet
            exact ⟨_, ⟨pa, pn, pc, ⟨B0', m0, d0, B1', m1, d1, B2', m2, d2⟩⟩, es, rfl, rfl, blk_new _ _ _, hat.keep ((Below.refl _ _).alloc (Nat.le_refl _) _), hsay, hbs4⟩
          · skip
            repeat' (first
              | (refine Lx.lexO_no (Lx.n1 rfl rfl rfl (by with_reducible rfl)) (fun K hK => ?_); go_simp; refine hK _ ?_; clear hK K)
              | (refine Lx.lexO_no (Lx.n0 rfl rfl rfl (by with_reducible rfl)) (fun K hK => ?_); go_simp; refine hK _ ?_; clear hK K)
              | (refine Lx.lexO_no (Lx.n2 rfl rfl rfl) (fun K hK => ?_); go_simp; refine hK _ ?_; clear hK K)
              | (refine Lx.lexO_pure (v := ?_) rfl (by first | exact Lx.w0 rfl | exact Lx.w1 rfl rfl rfl (by with_reducible rfl)) ?_ (fun K hK => ?_); rotate_left 1; (intro w' hCw; (try dsimp only at hCw); go_simp; done); go_simp; refine hK _ ?_; clear hK K)
              | (refine Lx.lexO_pure (v := ?_) rfl (by first | exact Lx.w0 rfl | exact Lx.w1 rfl rfl rfl (by with_reducible rfl)) ?_ (fun K hK => ?_); rotate_left 1; (intro w' hCw; (try dsimp only at hCw); go_simp; with_reducible rfl); go_simp; refine hK _ ?_; clear hK K)
              | (refine Lx.lexO_read (v := ?_) rfl (by first | exact Lx.w0 rfl | exact Lx.w1 rfl rfl rfl (by with_reducible rfl)) ?_ (fun K hK => ?_); rotate_left 1; (go_simp; done); go_simp; refine hK _ ?_; clear hK K)
              | (refine Lx.lexO_read (v := ?_) rfl (by first | exact Lx.w0 rfl | exact Lx.w1 rfl rfl rfl (by with_reducible rfl)) ?_ (fun K hK => ?_); rotate_left 1; (go_simp; with_reducible rfl); go_simp; refine hK _ ?_; clear hK K)
              | (refine Lx.lexO_eff rfl (by first | exact Lx.w0 rfl | exact Lx.w1 rfl rfl rfl (by with_reducible rfl)) (fun K hK => ?_); go_simp; (first | (go_at_call 9; refine (HLI2.out _ (hba1.alloc hba1.size _)).mono ?_; rintro e Wb ⟨⟨pa, pn, pc, ⟨B0', m0, d0, B1', m1, d1, B2', m2, d2⟩⟩, es, rfl, hpo, hsay, hbb⟩; have hat := hpo.at; have hba2 : Below B2.heap.size B2 (Wa.alloc (.cells #[.slice none 0 0, .slice none 0 0, .slice none 0 0, .slice none 0 0] 29)) := hba1.alloc hba1.size _; have hbb2 : Below B2.heap.size B2 Wb := hba2.trans (hbb.mono hba2.size); have hblk : Blk Wb Wa.heap.size 29 [.slice none 0 0, .slice none 0 0, .slice none 0 0, .slice none 0 0] := (blk_new Wa _ _).keep hbb; have HST4 := Lib.hid (prb_store hat hblk hbb2 hba1.size); have hbs4 := HST4.out.2.2; have f0 := hblk.cell (i := 0) rfl; have f1 := hblk.cell (i := 1) rfl; have f2 := hblk.cell (i := 2) rfl; have f3 := hblk.cell (i := 3) rfl; have f4 := hblk.lt; have f5 : ∀ o, Wb.frozen? ⟨Wa.heap.size, o, none⟩ = false := hblk.frozen; unfold PrbS.val; dsimp only) | (have hba2 : Below B2.heap.size B2 (Wa.alloc (.cells #[.slice none 0 0, .slice none 0 0, .slice none 0 0, .slice none 0 0] 29)) := hba1.alloc hba1.size _) | skip | skip); refine hK _ _ (by first | exact HC2.out _ hbs4 | exact HC2.out _ hbs2 | exact HC2.out _ hbb2 | exact HC2.out _ hba2 | exact HC2.out _ hba1 | exact HC2.out _ HDA2.out) ?_; clear hK K))
            all_goals (refine Lx.lexO_done ?_)
            go_wp2_with fail
            go_meet
            obtain ⟨k1, k2, k3⟩ := HST4.out
            exact ⟨_, ⟨pa, pn, pc, ⟨B0', m0, d0, B1', m1, d1, B2', m2, d2⟩⟩, es, rfl, rfl, k1, PrbAt.up k2 (by simp), hsay, k3⟩
        · skip
          repeat' (first
            | (refine Lx.lexO_no (Lx.n1 rfl rfl rfl (by with_reducible rfl)) (fun K hK => ?_); go_simp; refine hK _ ?_; clear hK K)
            | (refine Lx.lexO_no (Lx.n0 rfl rfl rfl (by with_reducible rfl)) (fun K hK => ?_); go_simp; refine hK _ ?_; clear hK K)
            | (refine Lx.lexO_no (Lx.n2 rfl rfl rfl) (fun K hK => ?_); go_simp; refine hK _ ?_; clear hK K)
            | (refine Lx.lexO_pure (v := ?_) rfl (by first | exact Lx.w0 rfl | exact Lx.w1 rfl rfl rfl (by with_reducible rfl)) ?_ (fun K hK => ?_); rotate_left 1; (intro w' hCw; (try dsimp only at hCw); go_simp; done); go_simp; refine hK _ ?_; clear hK K)
            | (refine Lx.lexO_pure (v := ?_) rfl (by first | exact Lx.w0 rfl | exact Lx.w1 rfl rfl rfl (by with_reducible rfl)) ?_ (fun K hK => ?_); rotate_left 1; (intro w' hCw; (try dsimp only at hCw); go_simp; with_reducible rfl); go_simp; refine hK _ ?_; clear hK K)
            | (refine Lx.lexO_read (v := ?_) rfl (by first | exact Lx.w0 rfl | exact Lx.w1 rfl rfl rfl (by with_reducible rfl)) ?_ (fun K hK => ?_); rotate_left 1; (go_simp; done); go_simp; refine hK _ ?_; clear hK K)
            | (refine Lx.lexO_read (v := ?_) rfl (by first | exact Lx.w0 rfl | exact Lx.w1 rfl rfl rfl (by with_reducible rfl)) ?_ (fun K hK => ?_); rotate_left 1; (go_simp; with_reducible rfl); go_simp; refine hK _ ?_; clear hK K)
            | (refine Lx.lexO_eff rfl (by first | exact Lx.w0 rfl | exact Lx.w1 rfl rfl rfl (by with_reducible rfl)) (fun K hK => ?_); go_simp; (first | (go_at_call 10; refine (HTO.out _ _).mono ?_; rintro e Wa ⟨rfl, hba⟩; have hba1 : Below B2.heap.size B2 Wa := HDA2.out.trans (hba.mono HDA2.out.size)) | (go_at_call 9; refine (HLI2.out _ hba1).mono ?_; rintro e Wb ⟨⟨pa, pn, pc, ⟨B0', m0, d0, B1', m1, d1, B2', m2, d2⟩⟩, es, rfl, hpo, hsay, hbb⟩; have hat := hpo.at; have hbb2 : Below B2.heap.size B2 Wb := hba1.trans (hbb.mono hba1.size); have hblk : Blk Wb B2.heap.size 29 [.slice none 0 0, .slice none 0 0, .slice none 0 0, .slice none 0 0] := Blk.keep (Blk.keep (w := (B2.alloc (.cells #[.slice none 0 0, .slice none 0 0, .slice none 0 0, .slice none 0 0] 29)).drew) (blk_new B2 _ _) hba) hbb; have HST4 := Lib.hid (prb_store hat hblk hbb2 (Nat.le_refl _)); have hbs4 := HST4.out.2.2; have f0 := hblk.cell (i := 0) rfl; have f1 := hblk.cell (i := 1) rfl; have f2 := hblk.cell (i := 2) rfl; have f3 := hblk.cell (i := 3) rfl; have f4 := hblk.lt; have f5 : ∀ o, Wb.frozen? ⟨B2.heap.size, o, none⟩ = false := hblk.frozen; unfold PrbS.val; dsimp only) | skip | skip); refine hK _ _ (by first | exact HC2.out _ hbs4 | exact HC2.out _ hbs2 | exact HC2.out _ hbb2 | exact HC2.out _ hba2 | exact HC2.out _ hba1 | exact HC2.out _ HDA2.out) ?_; clear hK K))
          all_goals (refine Lx.lexO_done ?_)
          go_wp2_with fail
          go_meet
          obtain ⟨k1, k2, k3⟩ := HST4.out
          exact ⟨_, ⟨pa, pn, pc, ⟨B0', m0, d0, B1', m1, d1, B2', m2, d2⟩⟩, es, rfl, rfl, k1, PrbAt.up k2 (by simp), hsay, k3⟩
      case rest =>
        obtain ⟨g7, ⟨pa, pn, pc, ⟨D0, m0, e0, D1, m1, e1, D2, m2, e2⟩⟩, es, rfl, rfl, hblk, hat, hsay, hbx⟩ := hcut
        obtain ⟨B3, rfl⟩ : ∃ B3 : World, B3 = wc := ⟨_, rfl⟩
        have HQ7 := Lib.hid hblk
        have HQA := Lib.hid hat
        have HQS := Eqn.mk hsay
        have HB23 := Lib.hid hbx
        have HB13 := Lib.hid (HB12.out.trans (hbx.mono HB12.out.size))
        have HCC : Hid (∀ X, Below B3.heap.size B3 X → (X.cell? ⟨w.heap.size, 0, none⟩ = some (.slice A n c) ∧ X.cell? ⟨w.heap.size, 1, none⟩ = some (.slice A0 n0 c0) ∧ X.cell? ⟨w.heap.size, 2, none⟩ = some (.slice A1 n1 c1) ∧ X.cell? ⟨w.heap.size, 3, none⟩ = some (.slice A2 n2 c2)) ∧ w.heap.size < X.heap.size ∧ Blk X g7 29 [.slice pa pn pc, .slice D0 m0 e0, .slice D1 m1 e1, .slice D2 m2 e2] ∧ Blk X g5 29 [.slice oa on_ oc, .slice O0 u0 p0, .slice O1 u1 p1, .slice O2 u2 p2] ∧ Below B1.heap.size B1 X) := Lib.hid (fun X h => by
          have hb := HB13.out.trans (h.mono HB13.out.size)
          exact ⟨HC1.out X hb, (HX.out.keep (HBX.out X hb)).lt, HQ7.out.keep h, (HO5.out.keep HB23.out).keep h, hb⟩)
        obtain ⟨⟨q0, q1, q2, q3⟩, q4, _, _, hb13⟩ := HCC.out B3 (Below.refl _ _)
        clear hblk hat hsay hbx HLI2 HC2
        go_upto_region 5 with fail
        go_cut [35] from 27 (fun s35 wx => s35 = .bool (!(validR ds r && vldT t)) ∧ Below B3.heap.size B3 wx)
        case first =>
          go_wp2_with fail
          refine (HVL.out _ hb13).mono ?_
          rintro e Wa ⟨rfl, hba⟩
          have HBa := Lib.hid hba
          clear hba q0 q1 q2 q3
          cases hv : validR ds r with
          | false =>
            go_wp2_with fail
            go_meet
            exact ⟨by rw [hv]; rfl, HBa.out⟩
          | true =>
            go_wp2_with fail
            refine (HTO.out _ _).mono ?_
            rintro e Wd ⟨rfl, hbd⟩
            go_wp2_with fail
            refine (HAT.out _).mono ?_
            rintro e We ⟨rfl, hbe⟩
            have hbd1 := HBa.out.trans (hbd.mono HBa.out.size)
            have HBe := Lib.hid (hbd1.trans (hbe.mono hbd1.size))
            clear hbd hbe hbd1
            cases ht : vldT t with
            | false =>
              have hlt : decide (atF t < 0) = true := decide_eq_true ((at_vld t).1 ht)
              have HT := Eqn.mk ht
              clear ht
              go_wp2_with fail
              go_meet
              exact ⟨by rw [hv, HT.out]; rfl, HBe.out⟩
            | true =>
              have hlt : decide (atF t < 0) = false := decide_eq_false (fun h => by rw [(at_vld t).2 h] at ht; cases ht)
              have HT := Eqn.mk ht
              clear ht
              go_wp2_with fail
              go_meet
              exact ⟨by rw [hv, HT.out]; rfl, HBe.out⟩
        case rest =>
          obtain ⟨rfl, hbx⟩ := hcut
          have HBd := Lib.hid hbx
          clear q0 q1 q2 q3 q4 hb13
          obtain ⟨⟨q0, q1, q2, q3⟩, q4, hk7, hk5, hb13⟩ := HCC.out _ hbx
          have g0 : wc.cell? ⟨g7, 0, none⟩ = some (.slice pa pn pc) := hk7.cell rfl
          have g1 : wc.cell? ⟨g7, 1, none⟩ = some (.slice D0 m0 e0) := hk7.cell rfl
          have g2 : wc.cell? ⟨g7, 2, none⟩ = some (.slice D1 m1 e1) := hk7.cell rfl
          have g3 : wc.cell? ⟨g7, 3, none⟩ = some (.slice D2 m2 e2) := hk7.cell rfl
          have g4 := hk7.lt
          have hveq := valid_eq (r := r) HEL.out
          by_cases hall : validR ds r = true ∧ vldT t = true
          · have hbool : (validR ds r && vldT t) = true := by rw [hall.1, hall.2]; rfl
            obtain ⟨h1, h3⟩ := hall
            have HLF : Eqn (limF ds r t) ((ds.map (limR t), r), 0) := by rw [Eqn, limF, if_pos ⟨hveq.trans h1, h3⟩, lim_agree (hveq.trans h1) h3]
            have HRF2 := Eqn.mk (HRQ.out h1)
            have hqa := HQA.out
            have hqs := HQS.out
            rw [HLF.out] at hqa hqs
            have hoa := HOA.out
            have hos := HOS.out
            rw [HRF2.out] at hoa hos
            dsimp only at hqa hqs hoa hos
            have hlen : es.length = ds.length := by have := congrArg List.length hqs; simpa using this
            have hpn : pn = es.length := hqa.1.1.1.symm
            have hchs : ∀ d ∈ es, d.len ≤ 100000 := by
              intro d hd
              have he : d.len = d.chs.length := (hqa.1.2 d hd).1.symm
              have hm : d.say ∈ ds.map (limR t) := by rw [← hqs]; exact List.mem_map.2 ⟨d, hd, rfl⟩
              obtain ⟨x, hx, hxe⟩ := List.mem_map.1 hm
              have h8 : d.chs = x.chs.filter (leftR t) := (congrArg Prod.snd hxe).symm
              have h9 := List.length_filter_le (leftR t) x.chs
              have h10 := HM.out.2 x hx
              have h11 := HEL.out x hx
              rw [he, h8]; omega
            have HSQ : Hid (∀ X (s2 : PrbS) (es2 : List Dom), Below wc.heap.size wc X → PrbAt X X.heap.size s2 es2 r → es2.map Dom.say = ds.map (limR t) → Calls Tryd.prog 13 #[.agg #[.slice pa pn pc, .slice D0 m0 e0, .slice D1 m1 e1, .slice D2 m2 e2], s2.val] X (RetPost (.bool true) X.heap.size X)) := Lib.hid (fun X s2 es2 h hp he => rsame_any ⟨pa, pn, pc, ⟨D0, m0, e0, D1, m1, e1, D2, m2, e2⟩⟩ s2 X es es2 r (by have := HM.out.1; dsimp only; omega) hchs ((hqa.keep hbx).keep h) hp (hqs.trans he.symm))
            have HSO : Hid (∀ X, Below wc.heap.size wc X → Calls Tryd.prog 13 #[.agg #[.slice A n c, .slice A0 n0 c0, .slice A1 n1 c1, .slice A2 n2 c2], .agg #[.slice oa on_ oc, .slice O0 u0 p0, .slice O1 u1 p1, .slice O2 u2 p2]] X (RetPost (.bool true) X.heap.size X)) := Lib.hid (fun X h => rsame_any ⟨A, n, c, ⟨A0, n0, c0, A1, n1, c1, A2, n2, c2⟩⟩ ⟨oa, on_, oc, ⟨O0, u0, p0, O1, u1, p1, O2, u2, p2⟩⟩ X ds eo r (by dsimp only; exact HN.out) (fun d hd => Nat.le_trans (HM.out.2 d hd) (by decide)) (HPA.out X (HBX.out X (hb13.trans (h.mono hb13.size)))) (((hoa.keep HB23.out).keep hbx).keep h) hos.symm)
            unfold PrbS.val at HSQ
            have HCW : Hid (∀ X, Below wc.heap.size wc X → Below wc.heap.size wc X ∧ (X.cell? ⟨w.heap.size, 0, none⟩ = some (.slice A n c) ∧ X.cell? ⟨w.heap.size, 1, none⟩ = some (.slice A0 n0 c0) ∧ X.cell? ⟨w.heap.size, 2, none⟩ = some (.slice A1 n1 c1) ∧ X.cell? ⟨w.heap.size, 3, none⟩ = some (.slice A2 n2 c2)) ∧ (X.cell? ⟨g7, 0, none⟩ = some (.slice pa pn pc) ∧ X.cell? ⟨g7, 1, none⟩ = some (.slice D0 m0 e0) ∧ X.cell? ⟨g7, 2, none⟩ = some (.slice D1 m1 e1) ∧ X.cell? ⟨g7, 3, none⟩ = some (.slice D2 m2 e2)) ∧ (X.cell? ⟨g5, 0, none⟩ = some (.slice oa on_ oc) ∧ X.cell? ⟨g5, 1, none⟩ = some (.slice O0 u0 p0) ∧ X.cell? ⟨g5, 2, none⟩ = some (.slice O1 u1 p1) ∧ X.cell? ⟨g5, 3, none⟩ = some (.slice O2 u2 p2))) := Lib.hid (fun X h => by
              obtain ⟨a0, _, a1, a2, _⟩ := HCC.out X (HBd.out.trans (h.mono HBd.out.size))
              exact ⟨h, a0, ⟨a1.cell rfl, a1.cell rfl, a1.cell rfl, a1.cell rfl⟩, a2.cell rfl, a2.cell rfl, a2.cell rfl, a2.cell rfl⟩)
            have HRL2 : Hid (∀ W, Below wc.heap.size wc W → Calls Tryd.prog 14 #[.agg #[.slice A n c, .slice A0 n0 c0, .slice A1 n1 c1, .slice A2 n2 c2], .agg #[.int .i64 t]] W (PrbRet (ds.map (limR t), r) W)) := Lib.hid (fun W h => HRL.out W (hb13.trans (h.mono hb13.size)))
            unfold PrbRet at HRL2
            have HDR3 := Lib.hid ((Below.refl wc.heap.size wc).drew)
            have HEND : Hid (∀ X, Below wc.heap.size wc X → Below w.heap.size w X) := Lib.hid (fun X h => HBW.out X (HBX.out X (hb13.trans (h.mono hb13.size))))
            rw [hbool, HLF.out]
            dsimp only
            clear hbx hbool h1 h3 hqa hqs hoa hos hlen hpn hchs HQA HQS HOA HOS HVL HRL hveq hk7 hk5 hb13 HRQ
            go_wp2_with fail
            refine Lx.region (C := fun X => Below wc.heap.size wc X ∧ (X.cell? ⟨w.heap.size, 0, none⟩ = some (.slice A n c) ∧ X.cell? ⟨w.heap.size, 1, none⟩ = some (.slice A0 n0 c0) ∧ X.cell? ⟨w.heap.size, 2, none⟩ = some (.slice A1 n1 c1) ∧ X.cell? ⟨w.heap.size, 3, none⟩ = some (.slice A2 n2 c2)) ∧ (X.cell? ⟨g7, 0, none⟩ = some (.slice pa pn pc) ∧ X.cell? ⟨g7, 1, none⟩ = some (.slice D0 m0 e0) ∧ X.cell? ⟨g7, 2, none⟩ = some (.slice D1 m1 e1) ∧ X.cell? ⟨g7, 3, none⟩ = some (.slice D2 m2 e2)) ∧ (X.cell? ⟨g5, 0, none⟩ = some (.slice oa on_ oc) ∧ X.cell? ⟨g5, 1, none⟩ = some (.slice O0 u0 p0) ∧ X.cell? ⟨g5, 2, none⟩ = some (.slice O1 u1 p1) ∧ X.cell? ⟨g5, 3, none⟩ = some (.slice O2 u2 p2))) (hs := [3, 4, 11, 12]) (by kernel_rfl) (by kernel_rfl) (HCW.out _ HDR3.out) ?_
            repeat' (first
              | (refine Lx.lex_no (Lx.n1 rfl rfl rfl (by with_reducible rfl)) (fun K hK => ?_); go_simp; skip; refine hK _ ?_; clear hK K)
              | (refine Lx.lex_no (Lx.n0 rfl rfl rfl (by with_reducible rfl)) (fun K hK => ?_); go_simp; skip; refine hK _ ?_; clear hK K)
              | (refine Lx.lex_no (Lx.n2 rfl rfl rfl) (fun K hK => ?_); go_simp; skip; refine hK _ ?_; clear hK K)
              | (refine Lx.lex_pure (v := ?_) rfl (by first | exact Lx.w0 rfl | exact Lx.w1 rfl rfl rfl (by with_reducible rfl)) ?_ (fun K hK => ?_); rotate_left 1; (intro w' hCw; (try dsimp only at hCw); go_simp; first | done | with_reducible rfl); go_simp; skip; refine hK _ ?_; clear hK K)
              | (refine Lx.lex_read (v := ?_) rfl (by first | exact Lx.w0 rfl | exact Lx.w1 rfl rfl rfl (by with_reducible rfl)) ?_ (fun K hK => ?_); rotate_left 1; (go_simp; first | done | with_reducible rfl); go_simp; skip; refine hK _ ?_; clear hK K)
              | (refine Lx.lex_eff rfl (by first | exact Lx.w0 rfl | exact Lx.w1 rfl rfl rfl (by with_reducible rfl)) (fun K hK => ?_); go_simp; (first | (go_at_call 10; refine (HTO.out _ _).mono ?_; rintro e Wb ⟨rfl, hbb⟩; have hb2 : Below wc.heap.size wc Wb := HDR3.out.trans (hbb.mono HDR3.out.size)) | (go_at_call 14; refine (HRL2.out _ hb2).mono ?_; rintro e Wd ⟨⟨qa, qn, qc, ⟨F0, i0, j0, F1, i1, j1, F2, i2, j2⟩⟩, es2, rfl, hat2, hsay2, hbd⟩; have hb3 : Below wc.heap.size wc Wd := hb2.trans (hbd.mono hb2.size); unfold PrbS.val; dsimp only) | (go_at_call 13; first | (refine (HSO.out _ hb4).mono ?_; rintro e Wf ⟨rfl, hbf⟩; have hb5 : Below wc.heap.size wc Wf := hb4.trans (hbf.mono hb4.size)) | (refine (HSQ.out _ _ es2 hb3 hat2 hsay2).mono ?_; rintro e We ⟨rfl, hbe⟩; have hb4 : Below wc.heap.size wc We := hb3.trans (hbe.mono hb3.size))) | (go_at_call 6; refine (HK.out _).mono ?_; rintro e Wg ⟨rfl, hbg⟩; have hb6 : Below wc.heap.size wc Wg := hb5.trans (hbg.mono hb5.size))); refine hK _ _ (by first | exact HCW.out _ hb6 | exact HCW.out _ hb5 | exact HCW.out _ hb4 | exact HCW.out _ hb3 | exact HCW.out _ hb2) ?_; clear hK K))
            all_goals (refine Lx.lex_nil ?_)
            go_wp2_with fail
            go_ret
            exact ⟨rfl, HEND.out _ hb6⟩
          · have hbool : (validR ds r && vldT t) = false := by
              cases h1 : validR ds r <;> cases h3 : vldT t <;> simp_all
            have HLF : Eqn (limF ds r t) ((([], ⟨[], [], []⟩), 2)) := by rw [Eqn, limF, if_neg (by rw [hveq]; exact hall)]
            have hes : es = [] := by
              have := HQS.out
              rw [HLF.out] at this
              simpa using this
            have HPB := HQA.out
            rw [HLF.out, hes] at HPB
            have HSM : Hid (Calls Tryd.prog 13 #[.agg #[.slice pa pn pc, .slice D0 m0 e0, .slice D1 m1 e1, .slice D2 m2 e2], .agg #[.slice none 0 0, .slice none 0 0, .slice none 0 0, .slice none 0 0]] wc (RetPost (.bool true) wc.heap.size wc)) := Lib.hid (rsame_any ⟨pa, pn, pc, ⟨D0, m0, e0, D1, m1, e1, D2, m2, e2⟩⟩ ⟨none, 0, 0, ⟨none, 0, 0, none, 0, 0, none, 0, 0⟩⟩ wc [] [] ⟨[], [], []⟩ (by have := HPB.1.1.1; simp at this; dsimp only; omega) (fun x hx => by cases hx) (HPB.keep hbx) (prb_nil _ _) rfl)
            have HEND : Hid (∀ X, Below wc.heap.size wc X → Below w.heap.size w X) := Lib.hid (fun X h => HBW.out X (HBX.out X (hb13.trans (h.mono hb13.size))))
            rw [hbool, HLF.out]
            dsimp only
            clear hbx hall hbool HLF hes HPB HQA HQS HOA HOS HCC HVL HRL hveq hk7 hk5 hb13 HRQ q0 q1 q2 q3 q4
            go_wp2_with fail
            refine HSM.out.mono ?_
            rintro e Wf ⟨rfl, hbf⟩
            have HBf := Lib.hid hbf
            clear hbf g0 g1 g2 g3
            go_wp2_with fail
            refine (HK.out _).mono ?_
            rintro e Wg ⟨rfl, hbg⟩
            have HBg := Lib.hid (HBf.out.trans (hbg.mono HBf.out.size))
            clear hbg
            go_wp2_with fail
            go_ret
            exact ⟨rfl, HEND.out _ HBg.out⟩

set_option maxRecDepth 100000 in
theorem bandLimits_lifted (os : Os) (started : os.Started) (H : Type) (enc : TypeId × Value → H) :
    ReturnsInHanded {} Tryd.checked os 3 .any (fun w args => (Rows.bandLimitsSpec.pre enc Tryd.prog Tryd.f3 [] false w args ∧ laidMetH Tryd.prog laid07 w) ∧ sizedMet enc Tryd.prog Tryd.f3 (OpenSpec.ofChange Rows.bandLimitsSpec) false w args) (Rows.bandLimitsSpec.post enc Tryd.prog Tryd.f3 false true false false) := by
  refine handed_laid (C := Tryd.checked) (laid := laid07) own started (by kernel_rfl) Tryd.func3
    (ChangeSpec.witness_shaped (enc := enc) (C := Tryd.checked) (os := os) (X := fun w _ => laidMetH Tryd.prog laid07 w) false (World.laidAll Tryd.prog os laid07) #[.agg #[.slice none 0 0, .slice none 0 0, .slice none 0 0, .slice none 0 0], .int .i64 0] 8 (World.laidAll_os _ _ _) (World.shaped_of_ZipB (by kernel_rfl) (by kernel_rfl)) (by kernel_rfl) (by kernel_rfl) (by kernel_rfl) (laidHold os _)) ?_
  intro W base args ds gs before hval0 hW hL hsh
  have hTab := tab_of hL hsh
  have hval : ∀ (j : Nat) t v, Tryd.f3.params[j]? = some t → args[j]? = some v → Value.okWide Tryd.prog W .any base t v := hval0
  have hW' := hW
  obtain ⟨p, q, hA0, hV, rfl, hfz, hnd⟩ := hW
  have hA : DataW.TrodAll enc Tryd.prog W 0 (fun _ => true) true Tryd.f3.params.toList args.toList ds p := hA0
  rw [Tryd.params3] at hA hval
  obtain ⟨v0, vs0, d0, ds0, p0, q0, hargs, rfl, rfl, h0, r0⟩ := trodAll_cons hA
  obtain ⟨v1, vs1, d1, ds1, p1, q1, rfl, rfl, rfl, h1, r1⟩ := trodAll_cons r0
  obtain ⟨rfl, rfl, rfl⟩ := trodAll_nil r1
  obtain rfl : args = #[v0, v1] := by cases args; simp_all
  obtain ⟨rfl, rfl⟩ := trodVars_none hV
  have k0 := h0
  have lt0 : ∀ x ∈ p0, x.block < W.heap.size := by obtain ⟨m, hm⟩ := k0; exact DataW.trod_lt m _ _ _ hm
  have k1 := h1
  have lt1 : ∀ x ∈ p1, x.block < W.heap.size := by obtain ⟨m, hm⟩ := k1; exact DataW.trod_lt m _ _ _ hm
  obtain ⟨s0, ds0, x0, rfl, R0⟩ := arg_prb (hval 0 29 _ rfl rfl) h0
  obtain ⟨x1, rfl, b1⟩ := arg_int Tryd.underlying3 (hval 1 3 _ rfl rfl) h1
  clear hA0 hval0
  refine (bandLimits_walk W hTab s0 ds0 x0 R0 x1 b1).mono fun e W' ⟨he, bel⟩ => ?_
  subst he
  exact ⟨_, rfl, _, _, _, [], _, [], hW', trodAll_mk1 (shut_bool Tryd.underlying4 _), (trodAll_cons_mk (Below.trod laidOut (by kernel_rfl) (of_decide_eq_true (by kernel_rfl)) k0 bel lt0) (trodAll_cons_mk (Below.trod laidOut (by kernel_rfl) (of_decide_eq_true (by kernel_rfl)) k1 bel lt1) trodAll_mk0)), rfl, bel.frame _, fun h => by cases h⟩

theorem bandLimits_over : Rows.bandLimitsRow.holds Tryd.pinned (OpenSpec.ofChange Rows.bandLimitsSpec) :=
  OpenClaim.holds_of_wide 3 Tryd.f3 rfl rfl rfl rfl rfl rfl rfl ⟨rfl, rfl, rfl, rfl, rfl⟩ rfl rfl rfl rfl rfl (by kernel_rfl) Tryd.func3 (by kernel_rfl)
    (of_decide_eq_true (by kernel_rfl)) (by unfold Func.isWrapper; first | (rw [if_pos (by decide +kernel)]; kernel_rfl) | (rw [if_neg (by decide +kernel)]; exact ⟨rfl, rfl⟩))
    (fun os started H enc _ => bandLimits_lifted os started H enc)

theorem bandLimitsCard_holds : Rows.BandLimitsCardSaid :=
  Claim7.holds_tied_plain_at .later [] [.data] true (true, "59b8d02ee9889ccebfb07942293381de826732be3e587d052c64cc088ea1f791") false
    bandLimits_over (fun _ h => by cases h) (by kernel_rfl) (fun _ h => by cases h) bandLimits_row_tie rfl ⟨rfl, rfl⟩ (by kernel_rfl) rfl
    (fun f fn hf hfn => by
      obtain rfl : f = 3 := Option.some.inj ((show Tryd.prog.funcNamed "bandplan/bandplanlaw26.BandLimits" = some 3 by kernel_rfl).symm.trans hf) |>.symm
      obtain rfl : fn = Tryd.f3 := (Option.some.inj (Tryd.func3.symm.trans hfn)).symm
      exact ⟨by kernel_rfl, fun j t ht => by
        rw [Tryd.params3] at ht
        rcases j with _ | j
        · obtain rfl : t = 29 := by simpa using ht.symm
          exact (show Tryd.prog.wantsStandIn 29 = false by kernel_rfl)
        rcases j with _ | j
        · obtain rfl : t = 3 := by simpa using ht.symm
          exact (show Tryd.prog.wantsStandIn 3 = false by kernel_rfl)
        · simp at ht⟩)
    (by kernel_rfl)
#print axioms bandLimitsCard_holds
end Go.Proofs.YtpdhelhngdeoeaaDoor
