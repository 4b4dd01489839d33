/- known() of the statements on layer 26 returns true. -/
import Derived.Deep.CutBlock
import Derived.RangeFuncNested
import Derived.RangeFuncBound
import Derived.RangeFuncCalls
import Derived.RangeFuncLeaves
import Derived.RangeFuncBox
import Derived.Shelf.Abstract
import Derived.Shelf.RegionOpen
import Derived.OwnWalkIn
import Derived.TacticsInMore
import Derived.LoopNIn
import Derived.LoopIn
import Derived.Laws.StructEq
import Derived.Test.YtpdhelhngdeoeaaDoorLim02
import Derived.Test.YtpdhelhngdeoeaaDoorLim03
import Derived.Test.YtpdhelhngdeoeaaDoorLim07
import Derived.Test.YtpdhelhngdeoeaaDoorLim08
import Derived.Test.YtpdhelhngdeoeaaDoorLim11
import Derived.Test.YtpdhelhngdeoeaaDoorLim13
/- The reference of layer 26: Limit. -/
namespace Go.Proofs.YtpdhelhngdeoeaaDoor
open Go.RowKit

/-- a problem that is being made, whose constraints are another one's -/
def LSt (W1 : World) (g : Nat) (v s0 s1 s2 : Value) (xd : List Dom) (W : World) : Prop :=
  Below W1.heap.size W1 W ∧ W1.heap.size ≤ g ∧ Blk W g 29 [v, s0, s1, s2] ∧
  W.ownsRow W1.heap.size 65 2 v xd.length (flat 2 Dom.cell xd) ∧ (∀ d ∈ xd, W.ownsRow W1.heap.size 3 1 (.slice d.adr d.len d.cap) d.len (d.chs.map intV))
section
variable {W1 W W' : World} {g : Nat} {v s0 s1 s2 : Value} {xd : List Dom}
theorem LSt.call (h : LSt W1 g v s0 s1 s2 xd W) (hb : Below W.heap.size W W') : LSt W1 g v s0 s1 s2 xd W' := by
  obtain ⟨h1, h2, h3, h4, h5⟩ := h
  exact ⟨h1.trans (hb.mono h1.size), h2, h3.keep hb, own_keep h4 hb, fun d hd => own_keep (h5 d hd) hb⟩
theorem LSt.alloc (h : LSt W1 g v s0 s1 s2 xd W) (o : Obj) : LSt W1 g v s0 s1 s2 xd (W.alloc o) := h.call ((Below.refl _ W).alloc (Nat.le_refl _) o)
theorem LSt.addD (h : LSt W1 g v s0 s1 s2 xd W) {v' : Value} {y : Dom} (hg : W.grownBy W' v.ownBlock) (hown : W'.ownsRow W1.heap.size 65 2 v' (xd.length + 1) (flat 2 Dom.cell xd ++ (List.range 2).map y.cell)) (hd' : W.ownsRow W1.heap.size 3 1 (.slice y.adr y.len y.cap) y.len (y.chs.map intV)) :
    LSt W1 g v' s0 s1 s2 (xd ++ [y]) (W'.setCell ⟨g, 0, none⟩ v') := by
  obtain ⟨h1, h2, h4, h6, h7⟩ := h
  have hb2 : Blk W' g 29 [v, s0, s1, s2] := blk_kept h4 hg (blk_not_row h4 (by decide) h6)
  have hB : Below W1.heap.size W1 W' := h1.grown hg h1.size (fun k e => own_ge h6 k e)
  refine ⟨hB.setCell (p := ⟨g, 0, none⟩) h2 _, h2, hb2.set_ 0 v', by have := row_set hown hb2 (by decide) 0 v'; rw [List.length_append, flat_snoc]; exact this, fun d hd => ?_⟩
  rcases List.mem_append.1 hd with h | h
  · exact row_set (row_kept (h7 d h) hg h6 (by decide)) hb2 (by decide) _ _
  · obtain rfl : d = y := by simpa using h
    exact row_set (row_kept hd' hg h6 (by decide)) hb2 (by decide) _ _
end

def limR (t : Int) (d : Dom) : Int × List Int := (d.st, d.chs.filter (leftR t))

set_option maxRecDepth 100000 in
set_option maxHeartbeats 8000000 in
theorem rlimit_any (s : PrbS) (t : Int) (w : World) (ds : List Dom) (r : Rul) (hn : s.nd ≤ 1000) (hd : ∀ d ∈ ds, d.len ≤ 1000) (h : PrbAt w w.heap.size s ds r) :
    Calls Tryd.prog 14 #[s.val, .agg #[.int .i64 t]] w (PrbRet (ds.map (limR t), r) w) := by
  obtain ⟨A, n, c, ⟨A0, n0, c0, A1, n1, c1, A2, n2, c2⟩⟩ := s
  obtain ⟨W1, hW1⟩ : ∃ W1, W1 = ((w.alloc (.cells #[.slice A n c, .slice A0 n0 c0, .slice A1 n1 c1, .slice A2 n2 c2] 29)).alloc (.cells #[.int .i64 t] 40)).alloc (.cells #[.slice none 0 0, .slice none 0 0, .slice none 0 0, .slice none 0 0] 29) := ⟨_, rfl⟩
  have hB0 : Below w.heap.size w W1 := by rw [hW1]; exact (((Below.refl _ w).alloc (Nat.le_refl _) _).alloc (by simp) _).alloc (by simp; omega) _
  have hs0 : W1.heap.size = w.heap.size + 3 := by rw [hW1]; simp
  have HC0 : Hid (W1.cell? ⟨w.heap.size, 0, none⟩ = some (.slice A n c) ∧ W1.cell? ⟨w.heap.size, 1, none⟩ = some (.slice A0 n0 c0) ∧ W1.cell? ⟨w.heap.size, 2, none⟩ = some (.slice A1 n1 c1) ∧ W1.cell? ⟨w.heap.size, 3, none⟩ = some (.slice A2 n2 c2) ∧ W1.cell? ⟨w.heap.size + 1, 0, none⟩ = some (.int .i64 t)) := Lib.hid (by rw [hW1]; refine ⟨?_, ?_, ?_, ?_, ?_⟩ <;> simp [go_sem])
  have HX6 : Hid (Blk W1 (w.heap.size + 1 + 1) 29 [.slice none 0 0, .slice none 0 0, .slice none 0 0, .slice none 0 0]) := Lib.hid (by
    rw [hW1]
    have := blk_new ((w.alloc (.cells #[.slice A n c, .slice A0 n0 c0, .slice A1 n1 c1, .slice A2 n2 c2] 29)).alloc (.cells #[.int .i64 t] 40)) [.slice none 0 0, .slice none 0 0, .slice none 0 0, .slice none 0 0] 29
    simpa using this)
  have HL := Lib.hid (h.1.keep hB0)
  have HRU := Lib.hid (h.2.below hB0)
  have HB0 := Lib.hid hB0
  obtain ⟨V0, hV0⟩ : ∃ V0, V0 = W1.alloc (.cells #[.slice none 0 0, .slice A0 n0 c0, .slice A1 n1 c1, .slice A2 n2 c2] 29) := ⟨_, rfl⟩
  have HP0 : Hid (LSt W1 W1.heap.size nilS (.slice A0 n0 c0) (.slice A1 n1 c1) (.slice A2 n2 c2) [] V0) := Lib.hid (by
    rw [hV0]
    exact ⟨(Below.refl _ W1).alloc (Nat.le_refl _) _, Nat.le_refl _, blk_new W1 [nilS, .slice A0 n0 c0, .slice A1 n1 c1, .slice A2 n2 c2] 29, World.ownsRow_nil _ _ _ _, (fun d h => by cases h)⟩)
  have HD := Lib.hid hd
  have Hlen : Eqn ds.length n := HL.out.1.1
  have HLW : Hid (∀ W, Below W1.heap.size W1 W → DomsAt W W1.heap.size A n ds) := Lib.hid (fun W hb => HL.out.below hb)
  have HT5 : Hid (∀ W, Below W1.heap.size W1 W → W.cell? ⟨w.heap.size + 1, 0, none⟩ = some (.int .i64 t) ∧ W.cell? ⟨w.heap.size, 0, none⟩ = some (.slice A n c) ∧ w.heap.size + 1 < W.heap.size) := Lib.hid (fun W hb => ⟨(hb.cell (p := ⟨w.heap.size + 1, 0, none⟩) (by dsimp only; omega)).trans HC0.out.2.2.2.2, (hb.cell (p := ⟨w.heap.size, 0, none⟩) (by dsimp only; omega)).trans HC0.out.1, by have := hb.size; omega⟩)
  have hw1 : w.heap.size + 3 ≤ W1.heap.size := by omega
  unfold PrbS.val
  dsimp only at hn ⊢
  obtain ⟨q0, q1, q2, q3, q4⟩ := HC0.out
  have lq : w.heap.size < W1.heap.size := by omega
  clear h hB0 hd hs0
  go_enter Tryd.func14, Tryd.ntmps14
  go_upto_region 1 with fail
  rw [← hW1]
  clear hW1
  go_upto_region 2 with fail
  rw [← hV0]
  clear hV0 q0 q1 q2 q3 q4
  go_wp2_with fail
  go_loopw [6] (fun i wr => ∃ (k : Nat) (dv : Value) (xd : List Dom), k ≤ n ∧ i = .int .i64 k ∧ LSt W1 W1.heap.size dv (.slice A0 n0 c0) (.slice A1 n1 c1) (.slice A2 n2 c2) xd wr ∧ Eqn (xd.map Dom.say) ((ds.take k).map (limR t)) ∧ xd.length = k) (fun i _ => n - (intOf i).toNat)
  case atStart => exact ⟨0, nilS, [], Nat.zero_le _, rfl, HP0.out, rfl, rfl⟩
  case round =>
    clear HP0
    obtain ⟨k, dv, xd, hk, rfl, hP, HE, hxl⟩ := hrel
    obtain ⟨wo, rfl⟩ : ∃ wo : World, wo = wr := ⟨_, rfl⟩
    have HXL := Lib.hid hxl
    clear hxl
    have hbs := hP.1.size
    have hwo : W1.heap.size < wo.heap.size := hP.2.2.1.lt
    obtain ⟨_, qa, qb⟩ := HT5.out _ hP.1
    by_cases hlt : k < n
    · obtain ⟨p, hp, _⟩ := drop_at (xs := ds) (k := k) (by rw [Hlen.out]; exact hlt)
      obtain ⟨b, off, hA, hbl, hc⟩ := (HLW.out _ hP.1).1.2 (by omega)
      have hrow := (HLW.out _ hP.1).2 p (List.mem_of_getElem? hp)
      have hpl := HD.out p (List.mem_of_getElem? hp)
      have c0' := hc k p hp 0 (by omega)
      have HC1 : Hid (∀ W, Below W1.heap.size W1 W → W.cell? ⟨b, off + k * 2 + 1, none⟩ = some (.slice p.adr p.len p.cap)) := Lib.hid (fun W hb => by
        obtain ⟨b', off', hA', _, hc'⟩ := (HLW.out W hb).1.2 (by omega)
        rw [hA] at hA'
        cases hA'
        exact hc' k p hp 1 (by omega))
      simp only [Dom.cell, Nat.add_zero] at c0'
      have hTD : (ds.take (k + 1)).map (limR t) = (ds.take k).map (limR t) ++ [limR t p] := by rw [List.take_add_one, hp]; simp
      have HTD := Eqn.mk hTD
      have HROW : Hid (∀ W, Below W1.heap.size W1 W → Row1 intV W W1.heap.size p.adr p.len p.chs) := Lib.hid (fun W hb => (HLW.out W hb).2 p (List.mem_of_getElem? hp))
      subst hA
      obtain ⟨st, adr, len, cap, chs⟩ := p
      dsimp only at *
      obtain ⟨V1, hV1⟩ : ∃ V1, V1 = wo.alloc (.cells #[.int .i64 st, .slice none 0 0] 65) := ⟨_, rfl⟩
      have h12 : Blk V1 wo.heap.size 65 [.int .i64 st, .slice none 0 0] := by rw [hV1]; exact blk_new wo _ _
      have hbv : Below wo.heap.size wo V1 := by rw [hV1]; exact (Below.refl _ wo).alloc (Nat.le_refl _) _
      have HV := Lib.hid (And.intro h12 hbv)
      have HCL : Hid (chs.length = len) := Lib.hid hrow.1
      have j0 : (k : Int) < (n : Int) := by omega
      have hbw : b < wo.heap.size := by omega
      clear hc hp hTD h12 hbv hrow
      have HPk := Lib.hid hP
      clear hP
      go_wp2_with fail
      rw [← hV1]
      clear hV1 c0' qa qb
      go_loopw [8] (fun i wi => ∃ (m : Nat) (ca : Option Addr) (cl cc : Nat) (L : List Int), m ≤ len ∧ i = .int .i64 m ∧ Blk wi wo.heap.size 65 [.int .i64 st, .slice ca cl cc] ∧ wi.ownsRow wo.heap.size 3 1 (.slice ca cl cc) cl (L.map intV) ∧ Eqn L ((chs.take m).filter (leftR t)) ∧ L.length ≤ m ∧ Below wo.heap.size wo wi) (fun i _ => len - (intOf i).toNat)
      case atStart => exact ⟨0, none, 0, 0, [], Nat.zero_le _, rfl, HV.out.1, World.ownsRow_nil _ _ _ _, rfl, by simp, HV.out.2⟩
      case round =>
        obtain ⟨m, ca, cl, cc, L, hm, rfl, h12, hO, HLq, hLl, hBi⟩ := hrel
        have his := hBi.size
        have hcl : L.length = cl := by obtain ⟨_, _, he, hrr⟩ := row1_of_own hO; cases he; exact hrr.1
        have hBW : Below W1.heap.size W1 wr := HPk.out.1.trans (hBi.mono hbs)
        have c1' := HC1.out _ hBW
        obtain ⟨qt, qa, qb⟩ := HT5.out _ hBW
        have hbw2' : b < wr.heap.size := by omega
        by_cases hml : m < len
        · obtain ⟨y, hy, _⟩ := drop_at (xs := chs) (k := m) (by rw [HCL.out]; exact hml)
          obtain ⟨b2, off2, hA2, hbl2, hc2⟩ := (HROW.out _ hBW).2 (by omega)
          have y0 := hc2 m y hy
          simp only [intV] at y0
          have HLN := Eqn.mk (filter_take (leftR t) chs m y hy)
          rw [← HLq.out] at HLN
          have HCH := Lib.hid (fun W => leftR_any y t W)
          have m0 : (m : Int) < (len : Int) := by omega
          have hbw2 : b2 < wr.heap.size := by omega
          have HI := Lib.hid (And.intro h12 (And.intro hO hBi))
          obtain ⟨i0, hi, hz0, hz1, hz2⟩ := info_parts int_info
          subst hA2
          clear hc2 hy h12 hO hBi HLq hBW
          go_wp2_with fail
          refine (HCH.out _).mono ?_
          rintro e W5 ⟨rfl, hb5⟩
          clear y0 qt qa qb c1'
          have H5 : Hid (Blk W5 wo.heap.size 65 [.int .i64 st, .slice ca cl cc] ∧ W5.ownsRow wo.heap.size 3 1 (.slice ca cl cc) cl (L.map intV) ∧ Below wo.heap.size wo W5) := Lib.hid ⟨HI.out.1.keep hb5, own_keep HI.out.2.1 hb5, HI.out.2.2.trans (hb5.mono his)⟩
          clear hb5 HI
          cases hsa : leftR t y with
          | false =>
            go_wp2_with fail
            go_roundw
            case rel => exact ⟨m + 1, ca, cl, cc, L, by omega, by go_num, H5.out.1, H5.out.2.1, by rw [Eqn, HLN.out]; simp [hsa], by omega, H5.out.2.2⟩
            case measure => simp [intOf]; omega
          | true =>
            have z1 : W5.cell? ⟨wo.heap.size, 1, none⟩ = some (.slice ca cl cc) := H5.out.1.cell rfl
            have z2 := H5.out.1.lt
            have hs5 := H5.out.2.2.size
            go_wp2_with (at_builtin; refine Hid.out ?_)
            unfold Hid
            refine wpList_append_own_at _ rfl _ _ 34 rfl wo.heap.size 3 i0 (.int .i64 0) 1 8 Tryd.underlying34 hi hz0 hz1 hz2 rfl (by decide) _ _ _ rfl (row_alloc H5.out.2.1 _) ⟨W5.heap.size, 0, none⟩ 1 1 [.int .i64 y] rfl rfl (cell_one_new _ _ _) (by simp [Value.oneCell']) (by unfold maxLen; omega) (by omega) (by simp; omega) ?_
            intro v' w3 hown' hgrow hnil hat
            have hown2 : w3.ownsRow wo.heap.size 3 1 v' (cl + 1) ((L ++ [y]).map intV) := by rw [List.map_append]; exact hown'
            have h12c : Blk w3 wo.heap.size 65 [.int .i64 st, .slice ca cl cc] := blk_kept (Blk.alloc H5.out.1 _) hgrow (blk_not_row H5.out.1 (by decide) H5.out.2.1)
            have hBc : Below wo.heap.size wo w3 := (H5.out.2.2.alloc hs5 _).grown hgrow (by simp; omega) (own_ge H5.out.2.1)
            obtain ⟨vA, vc, rfl, _⟩ := row1_of_own hown2
            have z3 : w3.cell? ⟨wo.heap.size, 1, none⟩ = some (.slice ca cl cc) := h12c.cell rfl
            have z4 := h12c.frozen 1
            have z5 := h12c.lt
            have HK : Hid (Blk (w3.setCell ⟨wo.heap.size, 1, none⟩ (.slice vA (cl + 1) vc)) wo.heap.size 65 [.int .i64 st, .slice vA (cl + 1) vc] ∧ (w3.setCell ⟨wo.heap.size, 1, none⟩ (.slice vA (cl + 1) vc)).ownsRow wo.heap.size 3 1 (.slice vA (cl + 1) vc) (cl + 1) ((L ++ [y]).map intV) ∧ Below wo.heap.size wo (w3.setCell ⟨wo.heap.size, 1, none⟩ (.slice vA (cl + 1) vc))) := Lib.hid ⟨h12c.set_ 1 _, row_set hown2 h12c (by decide) 1 _, hBc.setCell (p := ⟨wo.heap.size, 1, none⟩) (Nat.le_refl _) _⟩
            clear hown' hown2 hgrow hnil hat h12c hBc z1
            go_wp2_with fail
            clear z3 z4
            go_roundw
            case rel => exact ⟨m + 1, vA, cl + 1, vc, L ++ [y], by omega, by go_num, HK.out.1, HK.out.2.1, by rw [Eqn, HLN.out]; simp [hsa], by rw [List.length_append]; simp; omega, HK.out.2.2⟩
            case measure => simp [intOf]; omega
        · obtain rfl : m = len := by omega
          have hTT : chs.take m = chs := List.take_of_length_le (by rw [HCL.out]; omega)
          have HLF : Eqn L (chs.filter (leftR t)) := by rw [Eqn, HLq.out, hTT]
          have hQ := HPk.out.call hBi
          have e80 : wr.cell? ⟨W1.heap.size, 0, none⟩ = some dv := hQ.2.2.1.cell rfl
          have e81 := hQ.2.2.1.frozen 0
          have e82 := hQ.2.2.1.lt
          have e120 : wr.cell? ⟨wo.heap.size, 0, none⟩ = some (.int .i64 st) := h12.cell rfl
          have e121 : wr.cell? ⟨wo.heap.size, 1, none⟩ = some (.slice ca cl cc) := h12.cell rfl
          have e122 := h12.lt
          have HPA := Lib.hid (hQ.alloc (.cells #[.int .i64 st, .slice ca cl cc] 65))
          have hOA := Lib.hid (row_alloc (own_low hO hbs) (.cells #[.int .i64 st, .slice ca cl cc] 65))
          obtain ⟨i0, hi, hz0, hz1, hz2⟩ := info_parts dom_info
          obtain ⟨dA, dcap, hdv, _⟩ := own_formS (by decide) hQ.2.2.2.1
          subst hdv
          clear h12 hO hQ HLq hTT hBW hBi
          go_wp2_with (at_builtin; refine Hid.out ?_)
          unfold Hid
          refine wpList_append_own_at _ rfl _ _ 22 rfl W1.heap.size 65 i0 (.agg #[.int .i64 0, .slice none 0 0]) 2 32 Tryd.underlying22 hi hz0 hz1 hz2 rfl (by decide) _ _ _ rfl HPA.out.2.2.2.1 ⟨wr.heap.size, 0, none⟩ 1 1 [.int .i64 st, .slice ca cl cc] rfl rfl (cells_newN wr _ _) (by simp [Value.oneCell']) (by have := HXL.out; (try dsimp only); unfold maxLen; omega) (by have := HXL.out; (try dsimp only); omega) (by simp; omega) ?_
          intro v' w3 hown' hgrow hnil hat
          replace hgrow : World.grownBy _ w3 (Value.slice dA xd.length dcap).ownBlock := hgrow
          replace hown' : w3.ownsRow W1.heap.size 65 2 v' (xd.length + 1) (flat 2 Dom.cell xd ++ (List.range 2).map (Dom.cell ⟨st, ca, cl, cc, L⟩)) := hown'
          have H3 := Lib.hid (And.intro hown' hgrow)
          rw [← flat_snoc] at hown'
          obtain ⟨vA, vc, rfl, _⟩ := own_formS (by decide) hown'
          have HPB := Lib.hid (HPA.out.addD (y := ⟨st, ca, cl, cc, L⟩) hgrow H3.out.1 hOA.out)
          have hb8 : Blk w3 W1.heap.size 29 [.slice dA xd.length dcap, .slice A0 n0 c0, .slice A1 n1 c1, .slice A2 n2 c2] := blk_kept HPA.out.2.2.1 hgrow (blk_not_row HPA.out.2.2.1 (by decide) HPA.out.2.2.2.1)
          have r0 : w3.cell? ⟨W1.heap.size, 0, none⟩ = some (.slice dA xd.length dcap) := hb8.cell rfl
          have r1 := hb8.frozen 0
          have r2 := hb8.lt
          clear hown' hgrow hnil hat hb8 e80 e81 e82 e120 e121 e122 c1' qt qa qb
          go_wp2_with fail
          clear r0 r1 r2
          go_roundw
          case rel =>
            refine ⟨k + 1, .slice vA (xd.length + 1) vc, xd ++ [⟨st, ca, cl, cc, L⟩], by omega, by go_num, HPB.out, ?_, by rw [List.length_append, HXL.out]; rfl⟩
            rw [Eqn, HTD.out, List.map_append, HE.out]
            simp [Dom.say, limR, ← HLF.out]
          case measure => simp [intOf]; omega
    · obtain rfl : k = n := by omega
      have hTk : ds.take k = ds := List.take_of_length_le (by rw [Hlen.out]; omega)
      rw [hTk] at HE
      obtain ⟨dA, dc, rfl, hD⟩ := own_formS (by decide) hP.2.2.2.1
      have b8 := hP.2.2.1
      have g0 := b8.cell (i := 0) rfl
      have g1 := b8.cell (i := 1) rfl
      have g2 := b8.cell (i := 2) rfl
      have g3 := b8.cell (i := 3) rfl
      have g4 := b8.lt
      have b6 := HX6.out.keep hP.1
      have f0 := b6.cell (i := 0) rfl
      have f1 := b6.cell (i := 1) rfl
      have f2 := b6.cell (i := 2) rfl
      have f3 := b6.cell (i := 3) rfl
      have f4 := b6.lt
      have f5 : ∀ o, wo.frozen? ⟨w.heap.size + 1 + 1, o, none⟩ = false := b6.frozen
      have HPf := Lib.hid hP
      have HB6 := Lib.hid b6
      have HRF := Lib.hid (HRU.out.below (hP.1.mono (by omega)))
      clear hP hTk b8 b6
      go_wp2_with fail
      obtain ⟨Wf, hWf⟩ : ∃ Wf, Wf = (((wo.setCell ⟨w.heap.size + 1 + 1, 0, none⟩ (.slice dA xd.length dc)).setCell ⟨w.heap.size + 1 + 1, 1, none⟩ (.slice A0 n0 c0)).setCell ⟨w.heap.size + 1 + 1, 2, none⟩ (.slice A1 n1 c1)).setCell ⟨w.heap.size + 1 + 1, 3, none⟩ (.slice A2 n2 c2) := ⟨_, rfl⟩
      have hbf : Blk Wf (w.heap.size + 1 + 1) 29 [.slice dA xd.length dc, .slice A0 n0 c0, .slice A1 n1 c1, .slice A2 n2 c2] := by rw [hWf]; exact (((HB6.out.set_ 0 _).set_ 1 _).set_ 2 _).set_ 3 _
      have hrow : ∀ {e size m : Nat} {v : Value} {xs : List Value}, wo.ownsRow W1.heap.size e size v m xs → Wf.ownsRow W1.heap.size e size v m xs := by
        intro e size m v xs h
        rw [hWf]
        exact own_set (own_set (own_set (own_set h (by dsimp only; omega) _) (by dsimp only; omega) _) (by dsimp only; omega) _) (by dsimp only; omega) _
      have hBof : Below w.heap.size wo Wf := by
        have h0 := Below.refl w.heap.size wo
        rw [hWf]
        exact (((h0.setCell (p := ⟨w.heap.size + 1 + 1, 0, none⟩) (by dsimp only; omega) _).setCell (p := ⟨w.heap.size + 1 + 1, 1, none⟩) (by dsimp only; omega) _).setCell (p := ⟨w.heap.size + 1 + 1, 2, none⟩) (by dsimp only; omega) _).setCell (p := ⟨w.heap.size + 1 + 1, 3, none⟩) (by dsimp only; omega) _
      have hBf : Below w.heap.size w Wf := (HB0.out.trans (HPf.out.1.mono (by omega))).trans hBof
      rw [← hWf]
      have k0 := hbf.cell (i := 0) rfl
      have k1 := hbf.cell (i := 1) rfl
      have k2 := hbf.cell (i := 2) rfl
      have k3 := hbf.cell (i := 3) rfl
      clear hWf f0 f1 f2 f3 f4 f5 g0 g1 g2 g3 g4
      have hP := HPf.out
      refine bodyPost_ret (v := .agg #[.slice dA xd.length dc, .slice A0 n0 c0, .slice A1 n1 c1, .slice A2 n2 c2]) (by simp [results, Tryd.results14, go_sem, k0, k1, k2, k3]) rfl ?_
      exact ⟨⟨dA, xd.length, dc, ⟨A0, n0, c0, A1, n1, c1, A2, n2, c2⟩⟩, xd, rfl, ⟨⟨rowS_own (by decide) (hrow hP.2.2.2.1), fun d hd => row1_own (hrow (hP.2.2.2.2 d hd))⟩, (HRF.out.below hBof).up hBf.size⟩, HE.out, hBf⟩
end Go.Proofs.YtpdhelhngdeoeaaDoor

/- The reference of layer 17: Small. -/
namespace Go.Proofs.YtpdhelhngdeoeaaDoor
open Go.RowKit

def smGoN : Nat → List Dom → Bool
  | 0, _ => true
  | _, [] => true
  | f + 1, d :: r => if 60 < d.len then false else smGoN f r
theorem smGoN_nil (f : Nat) : smGoN f [] = true := by cases f <;> rfl
theorem smGoN_all : ∀ (f : Nat) (l : List Dom), smGoN f l = true → l.length ≤ f → ∀ d ∈ l, d.len ≤ 60 := by
  intro f
  induction f with
  | zero => intro l _ h2 d hd; cases l with | nil => cases hd | cons x r => simp at h2
  | succ f ih =>
    intro l h1 h2 d hd
    cases l with
    | nil => cases hd
    | cons x r =>
      rw [smGoN] at h1
      by_cases hx : 60 < x.len
      · rw [if_pos hx] at h1; cases h1
      · rw [if_neg hx] at h1
        rcases List.mem_cons.1 hd with rfl | h
        · omega
        · exact ih r h1 (by simp at h2; omega) d h
def smF (ds : List Dom) (r : Rul) (d k : Int) : Bool := smGoN 600 ds && (decide ((ds.length : Int) ≤ d) && (decide ((r.pairs.length : Int) ≤ k) && (decide ((r.loads.length : Int) ≤ k) && decide ((r.caps.length : Int) ≤ k))))
theorem smF_spec {ds : List Dom} {r : Rul} {d k : Int} (hd : d ≤ 600) (h : smF ds r d k = true) : (ds.length : Int) ≤ d ∧ (∀ x ∈ ds, x.len ≤ 60) ∧ (r.pairs.length : Int) ≤ k ∧ (r.loads.length : Int) ≤ k ∧ (r.caps.length : Int) ≤ k := by
  simp only [smF, Bool.and_eq_true, decide_eq_true_eq] at h
  obtain ⟨h1, h2, h3, h4, h5⟩ := h
  exact ⟨h2, smGoN_all 600 ds h1 (by omega), h3, h4, h5⟩

set_option maxHeartbeats 2000000 in
theorem small_any (s : PrbS) (d k : Int) (w : World) (ds : List Dom) (r : Rul) (hn : s.nd ≤ 9223372036854775807) (h : PrbAt w w.heap.size s ds r) :
    Calls Tryd.prog 5 #[s.val, .int .i64 d, .int .i64 k] w (RetPost (.bool (smF ds r d k)) w.heap.size w) := by
  obtain ⟨A, n, c, ⟨A0, n0, c0, A1, n1, c1, A2, n2, c2⟩⟩ := s
  obtain ⟨W0, hW0⟩ : ∃ W0, W0 = w.alloc (.cells #[.slice A n c, .slice A0 n0 c0, .slice A1 n1 c1, .slice A2 n2 c2] 29) := ⟨_, rfl⟩
  have HB0 : Hid (Below w.heap.size w W0) := Lib.hid (by rw [hW0]; exact (Below.refl _ w).alloc (Nat.le_refl _) _)
  have h0 : DomsAt W0 W0.heap.size A n ds := h.1.keep HB0.out
  have hX : Blk W0 w.heap.size 29 [.slice A n c, .slice A0 n0 c0, .slice A1 n1 c1, .slice A2 n2 c2] := by rw [hW0]; exact blk_new w _ _
  have Hl := Lib.hid h0.1
  have Hlen := Eqn.mk h0.1.1
  have q0 : W0.cell? ⟨w.heap.size, 0, none⟩ = some (.slice A n c) := hX.cell rfl
  have q1 : W0.cell? ⟨w.heap.size, 1, none⟩ = some (.slice A0 n0 c0) := hX.cell rfl
  have q2 : W0.cell? ⟨w.heap.size, 2, none⟩ = some (.slice A1 n1 c1) := hX.cell rfl
  have q3 : W0.cell? ⟨w.heap.size, 3, none⟩ = some (.slice A2 n2 c2) := hX.cell rfl
  have q4 := hX.lt
  have HF : Eqn (smF ds r d k) (smGoN (600 - 0) (ds.drop 0) && (decide ((n : Int) ≤ d) && (decide ((n0 : Int) ≤ k) && (decide ((n1 : Int) ≤ k) && decide ((n2 : Int) ≤ k))))) := by
    rw [Eqn, smF, Hlen.out, h.2.1.1, h.2.2.1.1, h.2.2.2.1.1]; rfl
  dsimp only at hn
  clear h h0 hX
  rw [show smF ds r d k = _ from HF.out]
  obtain ⟨tail, htail⟩ : ∃ tail, tail = (decide ((n : Int) ≤ d) && (decide ((n0 : Int) ≤ k) && (decide ((n1 : Int) ≤ k) && decide ((n2 : Int) ≤ k)))) := ⟨_, rfl⟩
  rw [← htail]
  obtain ⟨ans, hans⟩ : ∃ ans, ans = (smGoN (600 - 0) (ds.drop 0) && tail) := ⟨_, rfl⟩
  rw [← hans]
  have HA := Eqn.mk hans
  have HT := Eqn.mk htail
  clear hans HF htail
  unfold PrbS.val
  dsimp only
  go_enter Tryd.func5, Tryd.ntmps5
  go_wp2_with fail
  rw [← hW0]
  clear hW0
  have HEND : Hid (Eqn ans tail → Eqn ans (decide ((n : Int) ≤ d) && (decide ((n0 : Int) ≤ k) && (decide ((n1 : Int) ≤ k) && decide ((n2 : Int) ≤ k))))) := Lib.hid (fun h => h.out.trans HT.out)
  clear HT
  generalize htt : tail = tt at *
  clear htt
  go_loopw [7] (fun i wr => ∃ j : Nat, j ≤ n ∧ j ≤ 600 ∧ i = .int .i64 j ∧ Eqn ans (smGoN (600 - j) (ds.drop j) && tt) ∧ W0 = wr) (fun i _ => n - (intOf i).toNat)
  case atStart => exact ⟨0, Nat.zero_le _, Nat.zero_le _, rfl, HA, rfl⟩
  case round =>
    clear HA
    obtain ⟨j, hj, hj6, rfl, HR, rfl⟩ := hrel
    by_cases hlt : j < n
    · by_cases h6 : j < 600
      · obtain ⟨p, hp, hpd⟩ := drop_at (xs := ds) (k := j) (by rw [Hlen.out]; exact hlt)
        obtain ⟨b, off, hA, hbl, hc⟩ := Hl.out.2 (by omega)
        subst hA
        have c1 := hc j p hp 1 (by omega)
        simp only [Dom.cell] at c1
        have HR2 := HR.out
        rw [hpd, show 600 - j = (600 - (j + 1)) + 1 by omega, smGoN] at HR2
        have HRR := Eqn.mk HR2
        have j0 : (j : Int) < (n : Int) := by omega
        have j1 : (j : Int) < 600 := by omega
        clear hc hp hpd HR HR2
        obtain ⟨st, adr, len, cap, chs⟩ := p
        dsimp only at *
        by_cases h10 : 60 < len
        · have HE : Eqn ans false := by rw [Eqn, HRR.out, if_pos h10]; rfl
          have j2 : (60 : Int) < (len : Int) := by omega
          clear HRR h10
          go_wp2_with fail
          go_ret
          exact ⟨ret_bool HE.out.symm, HB0.out⟩
        · have HE : Eqn ans (smGoN (600 - (j + 1)) (ds.drop (j + 1)) && tt) := by rw [Eqn, HRR.out, if_neg h10]
          have j2 : ¬ (60 : Int) < (len : Int) := by omega
          clear HRR h10
          go_wp2_with fail
          go_roundw
          case rel => exact ⟨j + 1, by omega, by omega, by go_num, HE, trivial⟩
          case measure => simp [intOf]; omega
      · have HE : Eqn ans tt := by rw [Eqn, HR.out, show 600 - j = 0 by omega, smGoN]; simp
        have j0 : (j : Int) < (n : Int) := by omega
        have j1 : ¬ (j : Int) < 600 := by omega
        have HE2 := HEND.out HE
        clear HR HE HEND
        by_cases g0 : (n : Int) ≤ d
        · by_cases g1 : (n0 : Int) ≤ k
          · by_cases g2 : (n1 : Int) ≤ k
            · have HV : Eqn ans (decide ((n2 : Int) ≤ k)) := by rw [Eqn, HE2.out]; simp [g0, g1, g2]
              clear HE2
              go_wp2_with fail
              go_ret
              exact ⟨ret_bool HV.out.symm, HB0.out⟩
            · have HV : Eqn ans false := by rw [Eqn, HE2.out]; simp [g0, g1, g2]
              clear HE2
              go_wp2_with fail
              go_ret
              exact ⟨ret_bool HV.out.symm, HB0.out⟩
          · have HV : Eqn ans false := by rw [Eqn, HE2.out]; simp [g0, g1]
            clear HE2
            go_wp2_with fail
            go_ret
            exact ⟨ret_bool HV.out.symm, HB0.out⟩
        · have HV : Eqn ans false := by rw [Eqn, HE2.out]; simp [g0]
          clear HE2
          go_wp2_with fail
          go_ret
          exact ⟨ret_bool HV.out.symm, HB0.out⟩
    · obtain rfl : j = n := by omega
      have HE : Eqn ans tt := by rw [Eqn, HR.out, drop_end (by rw [Hlen.out]; omega), smGoN_nil]; simp
      have HE2 := HEND.out HE
      clear HR HE HEND
      by_cases g0 : (j : Int) ≤ d
      · by_cases g1 : (n0 : Int) ≤ k
        · by_cases g2 : (n1 : Int) ≤ k
          · have HV : Eqn ans (decide ((n2 : Int) ≤ k)) := by rw [Eqn, HE2.out]; simp [g0, g1, g2]
            clear HE2
            go_wp2_with fail
            go_ret
            exact ⟨ret_bool HV.out.symm, HB0.out⟩
          · have HV : Eqn ans false := by rw [Eqn, HE2.out]; simp [g0, g1, g2]
            clear HE2
            go_wp2_with fail
            go_ret
            exact ⟨ret_bool HV.out.symm, HB0.out⟩
        · have HV : Eqn ans false := by rw [Eqn, HE2.out]; simp [g0, g1]
          clear HE2
          go_wp2_with fail
          go_ret
          exact ⟨ret_bool HV.out.symm, HB0.out⟩
      · have HV : Eqn ans false := by rw [Eqn, HE2.out]; simp [g0]
        clear HE2
        go_wp2_with fail
        go_ret
        exact ⟨ret_bool HV.out.symm, HB0.out⟩
end Go.Proofs.YtpdhelhngdeoeaaDoor

/- The iterator over the targets; the contract of band.Next. -/
namespace Go.Proofs.YtpdhelhngdeoeaaDoor
open Go.RowKit Go.Shelf

attribute [local go_sem] Oper.semAt_some

def keyCells : List Value := keysL.map intV
theorem blk_key {W : World} {g t : Nat} (h : Blk W g t keyCells) {k : Nat} (hk : k < 11) : W.cell? ⟨g, k, none⟩ = some (.int .i64 (keyE k)) := h.cell (by unfold keyCells; rw [List.getElem?_map, keysL_at ⟨k, hk⟩]; rfl)

set_option maxRecDepth 100000 in
set_option maxHeartbeats 1000000 in
theorem tgt_in (n : Nat) (hn : 1 ≤ n) (l Bn n₀ : Nat) (J Jx : List Nat → World → Prop)
    (hY : ∀ pre x W, J pre W → pre.length < 11 → YieldAt Fence.wide (n - 1) Tryd.prog l #[.int .i64 (x : Nat), .agg #[.int .i64 (keyE x)]] W fun e W' =>
      (e = .returned (.bool true) ∧ J (pre ++ [x]) W' ∧ Keep1 n₀ Bn W W') ∨ (e = .returned (.bool false) ∧ Jx (pre ++ [x]) W'))
    (W : World) (hB : Blk W Bn 137 keyCells) (h0 : J [] W) :
    CallsIn Fence.wide n Tryd.prog 85 #[.func (.yield l) #[] #[], .pointer (some ⟨Bn, 0, none⟩)] W fun e W' => (∃ v, e = .returned v) ∧
      ((∃ ys, ys = List.range 11 ∧ J ys W') ∨ (∃ pre, pre <+: List.range 11 ∧ Jx pre W')) := by
  refine callsIn_of_wp Tryd.func85 rfl trivial ?_ rfl
  simp only [Tryd.ntmps85, List.size_toArray, List.length_cons, List.length_nil, Nat.reduceAdd, Nat.reduceSub, Array.replicate_succ, Array.replicate_zero, List.push_toArray, List.append_toArray, List.nil_append, List.cons_append]
  have HB := Lib.hid hB
  have H0 := Lib.hid h0
  have HY := Lib.hid hY
  clear hY hB h0
  gi_wp2_with fail
  gi_loopw [7] (fun i wr => ∃ k : Nat, k ≤ 11 ∧ i = .int .i64 k ∧ Blk wr Bn 137 keyCells ∧ J (List.range k) wr) (fun i _ => 11 - (intOf i).toNat)
  case atStart => exact ⟨0, Nat.zero_le _, rfl, HB.out, H0.out⟩
  case round =>
    clear HB H0
    obtain ⟨k, hk, rfl, hB, hJs⟩ := hrel
    by_cases hlt : k < 11
    · obtain ⟨fn, tmps, assign, body, hy, hR⟩ := HY.out (List.range k) k wr hJs (by rw [List.length_range]; exact hlt)
      have c1 := blk_key hB hlt
      have hblt := hB.lt
      have j0 : (k : Int) < 11 := by omega
      have HB := Lib.hid hB
      clear hB hJs
      generalize keyE k = y at *
      gi_wp2_with fail
      refine hR.mono ?_
      rintro e W3 (⟨rfl, hJ3, hk3⟩ | ⟨rfl, hJx3⟩)
      · have HB3 : Hid (Blk W3 Bn 137 keyCells) := Lib.hid (hk3.2.trans HB.out)
        have HJ3 := Lib.hid hJ3
        clear hJ3 hk3 hR hy
        gi_wp2_with fail
        go_roundw
        case rel => exact ⟨k + 1, hlt, by go_num, HB3.out, by rw [List.range_succ]; exact HJ3.out⟩
        case measure => simp [intOf]; omega
      · gi_wp2_with fail
        refine bodyPost_ret (results_none rfl _ _ _) rfl ?_
        refine ⟨⟨_, rfl⟩, .inr ⟨List.range k ++ [k], ?_, hJx3⟩⟩
        rw [← List.range_succ]
        refine ⟨(List.range 11).drop (k + 1), ?_⟩
        have h2 : List.range (k + 1) = (List.range 11).take (k + 1) := by rw [List.take_range, Nat.min_eq_left (by omega)]
        rw [h2, List.take_append_drop]
    · obtain rfl : k = 11 := by omega
      have HJs := Lib.hid hJs
      clear hB hJs
      gi_wp2_with fail
      go_end0
      exact ⟨⟨_, rfl⟩, .inl ⟨_, rfl, HJs.out⟩⟩

theorem targets_any (w : World) : Calls Tryd.prog 51 #[] w fun e w' => e = .returned (.func (.func 85) #[] #[.pointer (some ⟨w.heap.size, 0, none⟩)]) ∧ w' = w.alloc (.cells keyCells.toArray 137) := by
  go_enter Tryd.func51, Tryd.ntmps51
  go_wp2
  go_ret
  exact ⟨rfl, rfl⟩

theorem tgt_stops (n : Nat) (hn : 1 ≤ n) (Bn n₀ : Nat) (w : World) (hB : Blk w Bn 137 keyCells) :
    SeqStopsK Fence.wide n Tryd.prog 85 #[.pointer (some ⟨Bn, 0, none⟩)] (fun x : Nat => #[Value.int .i64 x, .agg #[.int .i64 (keyE x)]]) (Keep1 n₀ Bn) (fun ys => ys = List.range 11) (fun pre => pre <+: List.range 11) 11 w := fun l J Jx W hW _ _ hY h0 =>
  tgt_in n hn l Bn n₀ J Jx (fun pre x W => hY pre x W) W (hB.keep hW) h0
end Go.Proofs.YtpdhelhngdeoeaaDoor

/- The contract of band.Next. -/
namespace Go.Proofs.YtpdhelhngdeoeaaDoor
open Go.RowKit Go.Shelf

attribute [local go_sem] Oper.semAt_some

theorem tgt_eql (a b : Int) (w : World) : (binOp .eql 40 (.agg #[.int .i64 a]) (.agg #[.int .i64 b])).run Tryd.prog w = .ok (.bool (decide (a = b))) w := by
  have h := target_eq w a b
  unfold binOp
  simp [go_sem, h]
theorem tgt_neq (a b : Int) (w : World) : (binOp .neq 40 (.agg #[.int .i64 a]) (.agg #[.int .i64 b])).run Tryd.prog w = .ok (.bool (!decide (a = b))) w := by
  have h := target_eq w a b
  unfold binOp
  simp [go_sem, h]

/-- the next target and the error -/
def nextT (t : Int) : Int × Int := if vldT t = false then (0, 2) else if atF t = 10 then (0, 9) else (keyE (atF t + 1).toNat, 0)
theorem nextT_at : ∀ y : Fin 10, nextT (keyE y.1) = (keyE (y.1 + 1), 0) := by decide +kernel
theorem nextT_last : nextT (keyE 10) = (0, 9) := by decide +kernel
def lastIs (t : Int) (pre : List Nat) : Bool := match pre.getLast? with | some y => decide (keyE y = t) | none => false
theorem lastIs_snoc (t : Int) (pre : List Nat) (x : Nat) : lastIs t (pre ++ [x]) = decide (keyE x = t) := by unfold lastIs; simp

def NxI (w : World) (t : Int) (gp m : Nat) (pre : List Nat) (X : World) : Prop := m ≤ X.heap.size ∧ (∀ y ∈ pre.dropLast, keyE y ≠ t) ∧ Boxed X gp 4 (.bool (lastIs t pre)) ∧ Boxed X w.heap.size 40 (.int .i64 t) ∧ Boxed X (w.heap.size + 1) 40 (.int .i64 0) ∧ Boxed X (w.heap.size + 1 + 1) 36 (.int .i64 0) ∧ Below w.heap.size w X
def NxX (w : World) (t : Int) (c : Code) (pre : List Nat) (X : World) : Prop := c = .ret ∧ ∃ q y z, pre = q ++ [y, z] ∧ keyE y = t ∧ Boxed X (w.heap.size + 1) 40 (.int .i64 (keyE z)) ∧ Boxed X (w.heap.size + 1 + 1) 36 (.int .i64 0) ∧ Below w.heap.size w X
theorem nxI_own {w : World} {t : Int} {gp m B : Nat} (hB : w.heap.size ≤ B) : OwnFrom B (NxI w t gp m) := by
  intro pre X Y row hJ hg hr
  obtain ⟨h0, h1, h2, h3, h4, h5, h6⟩ := hJ
  refine ⟨Nat.le_trans h0 hg.size, h1, ?_, ?_, ?_, ?_, ownFrom_below (β := Unit) (Nat.le_refl _) hB () X Y row h6 hg hr⟩
  · exact Own.from (boxed_own gp 4 (fun _ : Unit => Value.bool (lastIs t pre))) B () X Y row h2 hg hr
  · exact Own.from (boxed_own _ 40 (fun _ : Unit => Value.int .i64 t)) B () X Y row h3 hg hr
  · exact Own.from (boxed_own _ 40 (fun _ : Unit => Value.int .i64 0)) B () X Y row h4 hg hr
  · exact Own.from (boxed_own _ 36 (fun _ : Unit => Value.int .i64 0)) B () X Y row h5 hg hr
theorem nxX_own {w : World} {t : Int} {B : Nat} (hB : w.heap.size ≤ B) (c : Code) : OwnFrom B (NxX w t c) := by
  intro pre X Y row hJ hg hr
  obtain ⟨h1, q, y, z, h2, h3, h4, h5, h6⟩ := hJ
  refine ⟨h1, q, y, z, h2, h3, ?_, ?_, ownFrom_below (β := Unit) (Nat.le_refl _) hB () X Y row h6 hg hr⟩
  · exact Own.from (boxed_own _ 40 (fun _ : Unit => Value.int .i64 (keyE z))) B () X Y row h4 hg hr
  · exact Own.from (boxed_own _ 36 (fun _ : Unit => Value.int .i64 0)) B () X Y row h5 hg hr
theorem heap_set {W : World} {a : Addr} {v : Value} {k : Nat} (h : a.block ≠ k) : (W.setCell a v).heap[k]? = W.heap[k]? := Below.heap_setCell _ _ _ _ (fun e => h e.symm)
theorem boxed_put {W : World} {B D : Nat} {t : TypeId} {v : Value} (h : Boxed W B t v) (hne : B ≠ D) (o : Obj) : Boxed (W.putObj D o) B t v := (World.putObj_heap_other hne).trans h
theorem boxed_keep {W W' : World} {B : Nat} {t : TypeId} {v : Value} (h : Boxed W B t v) (hb : Below W.heap.size W W') : Boxed W' B t v := (hb.block B h.lt).trans h

set_option maxRecDepth 100000 in
set_option maxHeartbeats 2000000 in
theorem nextT_any (t : Int) (w : World) : Calls Tryd.prog 25 #[.agg #[.int .i64 t]] w (RetPost (.tuple #[.agg #[.int .i64 (nextT t).1], .int .i64 (nextT t).2]) w.heap.size w) := by
  obtain ⟨W0, hW0⟩ : ∃ W0, W0 = ((w.alloc (.cells #[.int .i64 t] 40)).alloc (.cells #[.int .i64 0] 40)).alloc (.cells #[.int .i64 0] 36) := ⟨_, rfl⟩
  have b1 : Boxed W0 w.heap.size 40 (.int .i64 t) := by rw [hW0]; exact ((Boxed.new w _ _).alloc _).alloc _
  have b2 : Boxed W0 (w.heap.size + 1) 40 (.int .i64 0) := by
    rw [hW0]; have := Boxed.new (w.alloc (.cells #[.int .i64 t] 40)) 40 (.int .i64 0); rw [World.size_alloc] at this; exact this.alloc _
  have b3 : Boxed W0 (w.heap.size + 1 + 1) 36 (.int .i64 0) := by
    rw [hW0]; have := Boxed.new ((w.alloc (.cells #[.int .i64 t] 40)).alloc (.cells #[.int .i64 0] 40)) 36 (.int .i64 0); simpa using this
  have hB0 : Below w.heap.size w W0 := by rw [hW0]; exact (((Below.refl _ w).alloc (Nat.le_refl _) _).alloc (by simp) _).alloc (by simp; omega) _
  have c1 := b1.cell
  have H0 := Lib.hid (And.intro b1 (And.intro b2 (And.intro b3 hB0)))
  have HVL := Lib.hid (fun W => bvalid_any t W)
  clear b1 b2 b3 hB0
  cases hv : vldT t with
  | false =>
    have HF : Eqn (nextT t) (0, 2) := by rw [Eqn, nextT, if_pos hv]
    rw [HF.out]
    rw [hv] at HVL
    clear HF hv
    go_enter Tryd.func25, Tryd.ntmps25
    go_wp2_with fail
    rw [← hW0]
    clear hW0
    refine (HVL.out _).mono ?_
    rintro e W1 ⟨rfl, hb1⟩
    have b2 := boxed_keep H0.out.2.1 hb1
    have b3 := boxed_keep H0.out.2.2.1 hb1
    have k2 := b2.cell
    have k3 := b3.cell
    have f2 := b2.frozen
    have f3 := b3.frozen
    have l2 := b2.lt
    have l3 := b3.lt
    have H1 := Lib.hid (And.intro b2 (And.intro b3 (H0.out.2.2.2.trans (hb1.mono H0.out.2.2.2.size))))
    clear b2 b3 hb1
    go_wp2_with fail
    have b2 := (H1.out.1.set (.int .i64 0)).other (B' := w.heap.size + 1 + 1) (by omega) (.int .i64 2)
    have b3 := (H1.out.2.1.other (B' := w.heap.size + 1) (by omega) (.int .i64 0)).set (.int .i64 2)
    have q2 := b2.cell
    have q3 := b3.cell
    refine bodyPost_ret (v := .tuple #[.agg #[.int .i64 0], .int .i64 2]) (by simp [results, Tryd.results25, go_sem, q2, q3]) rfl ⟨rfl, (H1.out.2.2.setCell (p := ⟨w.heap.size + 1, 0, none⟩) (by simp) _).setCell (p := ⟨w.heap.size + 1 + 1, 0, none⟩) (by dsimp only; omega) _⟩
  | true =>
    have heq := tgt_eql
    rw [hv] at HVL
    have HV := Lib.hid hv
    clear hv
    refine (callsIn_wide (n := 3)).1 ?_
    refine callsIn_of_wp_marks Tryd.func25 rfl trivial ?_ rfl
    simp only [Tryd.ntmps25, List.size_toArray, List.length_cons, List.length_nil, Nat.reduceAdd, Nat.reduceSub, Array.replicate_succ, Array.replicate_zero, List.push_toArray, List.append_toArray, List.nil_append, List.cons_append]
    gi_wp2_with fail
    rw [← hW0]
    clear hW0
    refine ⟨trivial, (callsIn_wide.2 (HVL.out _)).mono ?_⟩
    rintro e W1 ⟨rfl, hb1⟩
    have H1 := Lib.hid (And.intro (boxed_keep H0.out.1 hb1) (And.intro (boxed_keep H0.out.2.1 hb1) (And.intro (boxed_keep H0.out.2.2.1 hb1) (H0.out.2.2.2.trans (hb1.mono H0.out.2.2.2.size)))))
    clear hb1 H0 c1
    gi_wp2_with fail
    refine ⟨trivial, (callsIn_wide.2 (targets_any _)).mono ?_⟩
    rintro e W2 ⟨rfl, hW2⟩
    have hbW : Below W1.heap.size W1 W2 := by rw [hW2]; exact ((Below.refl _ W1).alloc (Nat.le_refl _) _).alloc (by simp) _
    have bp : Boxed W2 W1.heap.size 4 (.bool false) := by rw [hW2]; exact (Boxed.new W1 _ _).alloc _
    have hk : Blk W2 (W1.heap.size + 1) 137 keyCells := by rw [hW2]; have := blk_new (W1.alloc (.cells #[.bool false] 4)) keyCells 137; rwa [World.size_alloc] at this
    have hs2 : W2.heap.size = W1.heap.size + 2 := by rw [hW2]; simp
    have hl3 := H1.out.2.2.1.lt
    have HI0 : Hid (NxI w t W1.heap.size W2.heap.size [] W2) := Lib.hid ⟨Nat.le_refl _, (fun y h => by cases h), bp, boxed_keep H1.out.1 hbW, boxed_keep H1.out.2.1 hbW, boxed_keep H1.out.2.2.1 hbW, H1.out.2.2.2.trans (hbW.mono H1.out.2.2.2.size)⟩
    clear hW2 hbW bp
    simp only [World.size_alloc]
    gi_wp2_with fail
    refine wpIn_rangeFunc_ownH rfl (by decide) (gf := 85) (lb := #[.pointer (some ⟨W1.heap.size + 1, 0, none⟩)]) rfl trivial (enters_of Tryd.func85 (by kernel_rfl) rfl)
      (tgt_stops 2 (by decide) (W1.heap.size + 1) w.heap.size W2 hk) keep1_t (keep1_b (by omega) (by omega)) (Below.refl _ _) (fun _ => rfl)
      (NxI w t W1.heap.size W2.heap.size) (NxX w t) (nxI_own (by omega)) (nxX_own (by omega)) HI0.out
      (fun x a' X => ∃ Bx, W2.heap.size ≤ Bx ∧ Boxed X Bx 40 (.int .i64 (keyE x)) ∧ a' = { tmps := #[.agg #[.int .i64 t], .pointer (some ⟨w.heap.size, 0, none⟩), .pointer (some ⟨w.heap.size + 1, 0, none⟩), .pointer (some ⟨w.heap.size + 1 + 1, 0, none⟩), .pointer (some ⟨W1.heap.size, 0, none⟩), undef, .pointer (some ⟨Bx, 0, none⟩), .agg #[.int .i64 t], .bool true, .bool false, undef, .func (.func 85) #[] #[.pointer (some ⟨W1.heap.size + 1, 0, none⟩)], .int .i64 x, .agg #[.int .i64 (keyE x)], undef, undef, undef, undef, undef, undef], defers := [] }) ?hAx ?assign ?body ?done ?stop
    case hAx =>
      intro x a' u X Y row h hg hr
      obtain ⟨Bx, h1, h2, h3⟩ := h
      exact ⟨Bx, h1, Own.from (boxed_own Bx 40 (fun _ : Unit => Value.int .i64 (keyE x))) _ () X Y row h2 hg hr, h3⟩
    case assign =>
      rintro l pre x X K hI hK
      gi_wp2
      obtain ⟨h0, h1, h2, h3, h4, h5, h6⟩ := hI
      exact hK _ _ ((KeepsOthers.alloc _ _).from _) ⟨(Below.refl _ X).alloc h6.size _, Below.heap_alloc X _ _ (by omega)⟩ ⟨by simp; omega, h1, h2.alloc _, h3.alloc _, h4.alloc _, h5.alloc _, h6.alloc h6.size _⟩ ⟨X.heap.size, h0, Boxed.new X _ _, rfl⟩
    case body =>
      rintro l pre x a' X hl ⟨r, hr⟩ hI ⟨Bx, hBx, bX, rfl⟩ hlt
      obtain ⟨h0, h1, h2, h3, h4, h5, h6⟩ := hI
      have c4 := h2.cell
      have f4 := h2.frozen
      have l4 := h2.lt
      have c1 := h3.cell
      have c2 := h4.cell
      have f2 := h4.frozen
      have l2 := h4.lt
      have c3 := h5.cell
      have f3 := h5.frozen
      have l3 := h5.lt
      have c6 := bX.cell
      cases hla : lastIs t pre with
      | true =>
        rw [hla] at c4
        obtain ⟨q, y, hq, hy⟩ : ∃ q y, pre = q ++ [y] ∧ keyE y = t := by
          unfold lastIs at hla
          cases hg : pre.getLast? with
          | none => rw [hg] at hla; cases hla
          | some y =>
            rw [hg] at hla
            obtain ⟨q, hq⟩ := List.getLast?_eq_some_iff.1 hg
            exact ⟨q, y, hq, by simpa using hla⟩
        have HN : Hid (KeepsFrom W2.heap.size X ((X.setCell ⟨w.heap.size + 1, 0, none⟩ (.int .i64 (keyE x))).setCell ⟨w.heap.size + 1 + 1, 0, none⟩ (.int .i64 0)) ∧ NxX w t .ret (pre ++ [x]) ((X.setCell ⟨w.heap.size + 1, 0, none⟩ (.int .i64 (keyE x))).setCell ⟨w.heap.size + 1 + 1, 0, none⟩ (.int .i64 0))) := Lib.hid ⟨((KeepsOthers.setCell _ _ _).trans (KeepsOthers.setCell _ _ _)).from _, rfl, q, y, x, by rw [hq]; simp, hy, (h4.set _).other (by omega) _, (h5.other (by omega) _).set _, (h6.setCell (p := ⟨w.heap.size + 1, 0, none⟩) (by simp) _).setCell (p := ⟨w.heap.size + 1 + 1, 0, none⟩) (by dsimp only; omega) _⟩
        clear h1 h2 h3 h4 h5 h6 bX hla hq hy hr
        gi_wp2_with fail
        exact HN.out
      | false =>
        rw [hla] at c4
        have HN : Hid (KeepsFrom W2.heap.size X (X.setCell ⟨W1.heap.size, 0, none⟩ (.bool (decide (keyE x = t)))) ∧ Keep1 w.heap.size (W1.heap.size + 1) X (X.setCell ⟨W1.heap.size, 0, none⟩ (.bool (decide (keyE x = t)))) ∧ NxI w t W1.heap.size W2.heap.size (pre ++ [x]) (X.setCell ⟨W1.heap.size, 0, none⟩ (.bool (decide (keyE x = t))))) := Lib.hid ⟨(KeepsOthers.setCell _ _ _).from _, ⟨(Below.refl _ X).setCell (p := ⟨W1.heap.size, 0, none⟩) (by dsimp only; omega) _, heap_set (by dsimp only; omega)⟩, by simpa using h0, by
            intro y hy
            rw [List.dropLast_concat] at hy
            rcases List.eq_nil_or_concat pre with rfl | ⟨q, z, rfl⟩
            · cases hy
            · rw [List.concat_eq_append] at h1 hla hy
              rw [List.dropLast_concat] at h1
              rcases List.mem_append.1 hy with h | h
              · exact h1 y h
              · obtain rfl : y = z := by simpa using h
                rw [lastIs_snoc] at hla
                simpa using hla, by rw [lastIs_snoc]; exact h2.set _, h3.other (by omega) _, h4.other (by omega) _, h5.other (by omega) _, h6.setCell (p := ⟨W1.heap.size, 0, none⟩) (by dsimp only; omega) _⟩
        clear h1 h2 h3 h4 h5 h6 bX hla hr
        generalize keyE x = y at *
        gi_wp2_with fail
        exact HN.out
    case done =>
      rintro D ys X hD rfl hI hK
      obtain ⟨h0, h1, h2, h3, h4, h5, h6⟩ := hI
      have c2 := h4.cell
      have f2 := h4.frozen
      have l2 := h4.lt
      have c3 := h5.cell
      have f3 := h5.frozen
      have l3 := h5.lt
      have HF : Eqn (nextT t) (0, 9) := by
        obtain ⟨e, he, rfl⟩ := vldT_key HV.out
        by_cases h10 : e = 10
        · subst h10; exact nextT_last
        · exact absurd rfl (h1 e (by
            have : (List.range 11).dropLast = List.range 10 := by decide
            rw [this, List.mem_range]; omega))
      have HB := Lib.hid (And.intro h4 (And.intro h5 h6))
      have HKD := Lib.hid hK
      clear h1 h2 h3 h4 h5 h6 hK
      gi_wp2_with fail
      have b2 := (HB.out.1.set (.int .i64 0)).other (B' := w.heap.size + 1 + 1) (by omega) (.int .i64 9)
      have b3 := (HB.out.2.1.other (B' := w.heap.size + 1) (by omega) (.int .i64 0)).set (.int .i64 9)
      have hKX := ((KeepsOthers.setCell X ⟨w.heap.size + 1, 0, none⟩ (.int .i64 0)).trans (KeepsOthers.setCell _ ⟨w.heap.size + 1 + 1, 0, none⟩ (.int .i64 9))).same D _ HKD.out rfl
      refine ⟨by simp, .inl ⟨_, _, rfl, run_takeDeferred hKX, ?_⟩⟩
      have hD2 : w.heap.size + 1 + 1 < D := by omega
      have q2 := (boxed_put b2 (D := D) (by omega) (.deferred none)).cell
      have q3 := (boxed_put b3 (D := D) (by omega) (.deferred none)).cell
      refine ⟨.tuple #[.agg #[.int .i64 0], .int .i64 9], by simp [results, Tryd.results25, go_sem, q2, q3], by rw [HF.out], ?_⟩
      exact ((HB.out.2.2.setCell (p := ⟨w.heap.size + 1, 0, none⟩) (by simp) _).setCell (p := ⟨w.heap.size + 1 + 1, 0, none⟩) (by dsimp only; omega) _).trans (belowK_b (w := w) (Nat.le_refl _) _ D _ _ (by omega) hKX rfl rfl)
    case stop =>
      rintro D cc pre X hD hSp ⟨rfl, q, y, z, rfl, hy, h4, h5, h6⟩ hK
      have HF : Eqn (nextT t) (keyE z, 0) := by
        obtain ⟨s, hs⟩ := hSp
        have e1 : (List.range 11)[q.length]? = some y := by rw [← hs]; simp
        have e2 : (List.range 11)[q.length + 1]? = some z := by rw [← hs]; simp
        obtain ⟨g1, g2⟩ := List.getElem?_eq_some_iff.1 e1
        obtain ⟨g3, g4⟩ := List.getElem?_eq_some_iff.1 e2
        simp at g1 g2 g3 g4
        subst g2 g4
        rw [← hy]
        exact nextT_at ⟨q.length, by omega⟩
      have c2 := h4.cell
      have HB := Lib.hid (And.intro h4 (And.intro h5 h6))
      have HKD := Lib.hid hK
      have l3 := h5.lt
      clear h4 h5 h6 hK hSp
      gi_wp2_with fail
      refine ⟨by simp, .inl ⟨_, _, rfl, run_takeDeferred HKD.out, ?_⟩⟩
      have q2 := (boxed_put HB.out.1 (D := D) (by omega) (.deferred none)).cell
      have q3 := (boxed_put HB.out.2.1 (D := D) (by omega) (.deferred none)).cell
      refine ⟨.tuple #[.agg #[.int .i64 (keyE z)], .int .i64 0], by simp [results, Tryd.results25, go_sem, q2, q3], by rw [HF.out], ?_⟩
      exact HB.out.2.2.trans (belowK_b (w := w) (Nat.le_refl _) _ D _ _ (by omega) HKD.out rfl rfl)
end Go.Proofs.YtpdhelhngdeoeaaDoor

namespace Go.Proofs.YtpdhelhngdeoeaaDoor
open Go.RowKit

theorem at_vld (t : Int) : (vldT t = false ↔ atF t < 0) := by
  by_cases h : ∃ k : Fin 11, keyE k.1 = t
  · obtain ⟨k, rfl⟩ := h
    revert k
    decide +kernel
  · have h1 : ∀ k : Fin 11, keyE k.1 ≠ t := fun k e => h ⟨k, e⟩
    have e0 : (24 : Int) ≠ t := h1 0
    have e1 : (23 : Int) ≠ t := h1 1
    have e2 : (21 : Int) ≠ t := h1 2
    have e3 : (19 : Int) ≠ t := h1 3
    have e4 : (18 : Int) ≠ t := h1 4
    have e5 : (14 : Int) ≠ t := h1 5
    have e6 : (13 : Int) ≠ t := h1 6
    have e7 : (12 : Int) ≠ t := h1 7
    have e8 : (10 : Int) ≠ t := h1 8
    have e9 : (8 : Int) ≠ t := h1 9
    have e10 : (7 : Int) ≠ t := h1 10
    have ha : atF t = -1 := by simp [atF, atGo, keyE, e0, e1, e2, e3, e4, e5, e6, e7, e8, e9, e10]
    have hb : blkN t = 0 := blkN_no t (fun e he h2 => h ⟨⟨e, he⟩, h2.symm⟩)
    rw [ha]
    unfold vldT
    rw [hb]
    decide
theorem kd1 : rngF 3 = (14, 51, 0) := by decide
theorem kd2 : rngF 0 = (0, 0, 2) := by decide
theorem kd3 : ofP 13 = (2, 0) := by decide
theorem kd4 : ofP 52 = (0, 2) := by decide
theorem kd5 : blkF 14 = (7, 0) := by decide +kernel
theorem kd6 : nextT 14 = (13, 0) := by decide +kernel
theorem kd7 : nextT 7 = (0, 9) := by decide +kernel
theorem kd8 : blkF 15 = (0, 2) := by decide +kernel
theorem kd9 : (chF 3 24).2 = 0 ∧ (chF 3 24).1.length = 14 ∧ (chF 3 24).1[0]? = some 14 ∧ (chF 3 24).1[13]? = some 27 := by decide +kernel
theorem kd10 : (chF 3 7).2 = 0 ∧ (chF 3 7).1.length = 30 := by decide +kernel
def kds (A : Option Addr) : List Dom := [⟨4, A, 2, 2, [1, 3]⟩]
def krl : Rul := ⟨[⟨4, 5, 0, 14, 51⟩], [], []⟩
def kds1 : List Dom := kds none
theorem kd11 : (probF kds1 krl 24).2 = 0 ∧ (probF kds1 krl 24).1.1.map (fun x => (x.1, x.2.length)) = [(4, 19)] ∧ (probF kds1 krl 24).1.2.pairs = [] := by decide +kernel
theorem probF_adr (A : Option Addr) (r : Rul) (t : Int) : probF (kds A) r t = probF kds1 r t := by
  have h1 : vbGo none (kds A) = vbGo none kds1 := rfl
  have h2 : (kds A).map (domOf t) = kds1.map (domOf t) := rfl
  have h3 : (kds A).map Dom.st = kds1.map Dom.st := rfl
  unfold probF
  rw [h1, h2, h3]

set_option maxRecDepth 100000 in
set_option maxHeartbeats 4000000 in
theorem known_any (w : World) : Calls Tryd.prog 6 #[] w (RetPost (.bool true) w.heap.size w) := by
  have Q1 : Hid (∀ w, Calls Tryd.prog 24 #[.int .i64 3] w fun e w' => e = .returned (.tuple #[.int .i64 14, .int .i64 51, .int .i64 0]) ∧ w = w') := Lib.hid (fun w => by have := range_any 3 w; rw [kd1] at this; exact this)
  have Q2 : Hid (∀ w, Calls Tryd.prog 24 #[.int .i64 0] w fun e w' => e = .returned (.tuple #[.int .i64 0, .int .i64 0, .int .i64 2]) ∧ w = w') := Lib.hid (fun w => by have := range_any 0 w; rw [kd2] at this; exact this)
  have Q3 : Hid (∀ w, Calls Tryd.prog 22 #[.int .i64 13] w fun e w' => e = .returned (.tuple #[.int .i64 2, .int .i64 0]) ∧ w = w') := Lib.hid (fun w => by have := of26_any 13 w; rw [kd3] at this; exact this)
  have Q4 : Hid (∀ w, Calls Tryd.prog 22 #[.int .i64 52] w fun e w' => e = .returned (.tuple #[.int .i64 0, .int .i64 2]) ∧ w = w') := Lib.hid (fun w => by have := of26_any 52 w; rw [kd4] at this; exact this)
  have Q5 : Hid (∀ w, Calls Tryd.prog 20 #[.agg #[.int .i64 14]] w (RetPost (.tuple #[.int .i64 7, .int .i64 0]) w.heap.size w)) := Lib.hid (fun w => by have := bblocks_any 14 w; rw [kd5] at this; exact this)
  have Q6 : Hid (∀ w, Calls Tryd.prog 25 #[.agg #[.int .i64 14]] w (RetPost (.tuple #[.agg #[.int .i64 13], .int .i64 0]) w.heap.size w)) := Lib.hid (fun w => by have := nextT_any 14 w; rw [kd6] at this; exact this)
  have Q7 : Hid (∀ w, Calls Tryd.prog 25 #[.agg #[.int .i64 7]] w (RetPost (.tuple #[.agg #[.int .i64 0], .int .i64 9]) w.heap.size w)) := Lib.hid (fun w => by have := nextT_any 7 w; rw [kd7] at this; exact this)
  have Q8 : Hid (∀ w, Calls Tryd.prog 20 #[.agg #[.int .i64 15]] w (RetPost (.tuple #[.int .i64 0, .int .i64 2]) w.heap.size w)) := Lib.hid (fun w => by have := bblocks_any 15 w; rw [kd8] at this; exact this)
  have RT := Lib.hid (fun n w => to_any n w)
  have RC := Lib.hid (fun n t w => channels_any n t w)
  go_enter Tryd.func6, Tryd.ntmps6
  go_wp2_with fail
  refine (Q1.out _).mono ?_
  rintro e w' ⟨rfl, rfl⟩
  go_wp2_with fail
  refine (Q2.out _).mono ?_
  rintro e w' ⟨rfl, rfl⟩
  go_wp2_with fail
  refine (Q3.out _).mono ?_
  rintro e w' ⟨rfl, rfl⟩
  go_wp2_with fail
  refine (Q4.out _).mono ?_
  rintro e w' ⟨rfl, rfl⟩
  go_wp2_with fail
  refine (RT.out _ _).mono ?_
  rintro e Wa ⟨rfl, hba⟩
  go_wp2_with fail
  refine (Q5.out _).mono ?_
  rintro e Wb ⟨rfl, hbb⟩
  have HBb := Lib.hid (hba.trans (hbb.mono hba.size))
  clear hba hbb
  go_wp2_with fail
  refine (RT.out _ _).mono ?_
  rintro e Wc ⟨rfl, hbc⟩
  go_wp2_with fail
  refine (Q6.out _).mono ?_
  rintro e Wd ⟨rfl, hbd⟩
  have hBd := HBb.out.trans ((hbc.trans (hbd.mono hbc.size)).mono HBb.out.size)
  have HBd := Lib.hid hBd
  clear hbc hbd HBb hBd
  go_wp2_with fail
  obtain ⟨We, hWe⟩ : ∃ We, We = Wd.alloc (.cells #[.int .i64 13] 40) := ⟨_, rfl⟩
  rw [← hWe]
  have HB12 : Hid (Blk We Wd.heap.size 40 [.int .i64 13]) := Lib.hid (by rw [hWe]; exact blk_new _ _ _)
  have HBe : Hid (Below w.heap.size w We) := Lib.hid (by rw [hWe]; exact HBd.out.alloc HBd.out.size _)
  clear hWe
  refine (RT.out _ _).mono ?_
  rintro e Wf ⟨rfl, hbf⟩
  go_wp2_with fail
  refine (Q7.out _).mono ?_
  rintro e Wg ⟨rfl, hbg⟩
  have hBg := hbf.trans (hbg.mono hbf.size)
  have HBg := Lib.hid hBg
  clear hbf hbg hBg
  go_wp2_with fail
  refine (RT.out _ _).mono ?_
  rintro e Wh ⟨rfl, hbh⟩
  go_wp2_with fail
  refine (Q8.out _).mono ?_
  rintro e Wi ⟨rfl, hbi⟩
  have hBi := HBg.out.trans ((hbh.trans (hbi.mono hbh.size)).mono HBg.out.size)
  have HBi := Lib.hid (HBe.out.trans (hBi.mono HBe.out.size))
  have HX := Lib.hid (HB12.out.keep hBi)
  have x0 : Wi.cell? ⟨Wd.heap.size, 0, none⟩ = some (.int .i64 13) := HX.out.cell rfl
  have x1 := HX.out.lt
  have hne : ∀ w, (binOp .neq 40 (.agg #[.int .i64 13]) (.agg #[.int .i64 13])).run Tryd.prog w = .ok (.bool false) w := fun w => by rw [tgt_neq]; rfl
  clear hbh hbi hBi HBg HBe HB12
  go_wp2_with fail
  refine Lx.region (C := fun X => Below Wi.heap.size Wi X ∧ X.cell? ⟨Wd.heap.size, 0, none⟩ = some (.int .i64 13)) (hs := [3]) (by kernel_rfl) (by kernel_rfl) ⟨(Below.refl _ _).drew, x0⟩ ?_
  repeat' (first
    | (refine Lx.lex_no (Lx.n1 rfl rfl rfl (by with_reducible rfl)) (fun K hK => ?_); go_simp; skip; refine hK _ ?_; clear hK K)
    | (refine Lx.lex_no (Lx.n0 rfl rfl rfl (by with_reducible rfl)) (fun K hK => ?_); go_simp; skip; refine hK _ ?_; clear hK K)
    | (refine Lx.lex_no (Lx.n2 rfl rfl rfl) (fun K hK => ?_); go_simp; skip; refine hK _ ?_; clear hK K)
    | (refine Lx.lex_pure (v := ?_) rfl (by first | exact Lx.w0 rfl | exact Lx.w1 rfl rfl rfl (by with_reducible rfl)) ?_ (fun K hK => ?_); rotate_left 1; (intro w' hCw; (try dsimp only at hCw); go_simp; first | done | with_reducible rfl); go_simp; skip; refine hK _ ?_; clear hK K)
    | (refine Lx.lex_read (v := ?_) rfl (by first | exact Lx.w0 rfl | exact Lx.w1 rfl rfl rfl (by with_reducible rfl)) ?_ (fun K hK => ?_); rotate_left 1; (go_simp; first | done | with_reducible rfl); go_simp; skip; refine hK _ ?_; clear hK K)
    | (refine Lx.lex_eff rfl (by first | exact Lx.w0 rfl | exact Lx.w1 rfl rfl rfl (by with_reducible rfl)) (fun K hK => ?_); go_simp; (first | (go_at_call 10; refine (RT.out _ _).mono ?_; rintro e Wj ⟨rfl, hbj⟩)); refine hK _ _ (by first | exact ⟨(Below.refl _ _).drew.trans (hbj.mono (by simp)), (hbj.cell (p := ⟨Wd.heap.size, 0, none⟩) (by simpa using x1)).trans x0⟩) ?_; clear hK K))
  all_goals (refine Lx.lex_nil ?_)
  have HBj := Lib.hid (HBi.out.drew.trans (hbj.mono (show w.heap.size ≤ Wi.heap.size from HBi.out.size)))
  clear hbj x0 x1 hne HX
  go_wp2_with fail
  refine (RT.out _ _).mono ?_
  rintro e Wk ⟨rfl, hbk⟩
  have HBk := Lib.hid (HBj.out.trans (hbk.mono HBj.out.size))
  clear hbk
  go_wp2_with fail
  refine (RC.out _ _ _).mono ?_
  rintro e Wl ⟨v1, rfl, hown1, hbl⟩
  obtain ⟨A1, cc1, rfl, hr1⟩ := row1_of_own hown1
  have HBl := Lib.hid (HBk.out.trans (hbl.mono HBk.out.size))
  have HR1 := Lib.hid hr1
  obtain ⟨K1, K2, K3, K4⟩ := kd9
  rw [K1, K2]
  have HK3 := Eqn.mk K3
  have HK4 := Eqn.mk K4
  rw [K2] at HR1
  generalize (chF 3 24).1 = L1 at *
  clear hown1 hbl hr1 K1 K2 K3 K4
  go_wp2_with fail
  refine (RT.out _ _).mono ?_
  rintro e Wm ⟨rfl, hbm⟩
  have HBm := Lib.hid (HBl.out.trans (hbm.mono HBl.out.size))
  have HR2 := Lib.hid (HR1.out.keep hbm)
  clear hbm HR1
  go_wp2_with fail
  refine (RC.out _ _ _).mono ?_
  rintro e Wn ⟨v2, rfl, hown2, hbn⟩
  obtain ⟨A2, cc2, rfl, _⟩ := row1_of_own hown2
  have HBn := Lib.hid (HBm.out.trans (hbn.mono HBm.out.size))
  have HR3 := Lib.hid (HR2.out.keep hbn)
  obtain ⟨K1, K2⟩ := kd10
  rw [K1, K2]
  clear hown2 hbn HR2 K1 K2
  obtain ⟨Wo, hWo⟩ : ∃ Wo, Wo = ((Wn.alloc (.cells #[.int .i64 1, .int .i64 3] 3)).alloc (.cells #[.int .i64 4, .slice (some ⟨Wn.heap.size, 0, none⟩) 2 2] 62)).alloc (.cells #[.int .i64 4, .int .i64 5, .int .i64 0, .int .i64 14, .int .i64 51] 73) := ⟨_, rfl⟩
  have hbo : Below Wn.heap.size Wn Wo := by rw [hWo]; exact (((Below.refl _ _).alloc (Nat.le_refl _) _).alloc (by simp) _).alloc (by simp; omega) _
  have hso : Wo.heap.size = Wn.heap.size + 3 := by rw [hWo]; simp
  have HDo : Hid (DomsAt Wo Wo.heap.size (some ⟨Wn.heap.size + 1, 0, none⟩) 1 (kds (some ⟨Wn.heap.size, 0, none⟩))) := Lib.hid (by
    have h1 := row1_new Wn intV 3 [1, 3]
    have h2 := rowS_new (Wn.alloc (.cells #[.int .i64 1, .int .i64 3] 3)) 2 Dom.cell 62 (kds (some ⟨Wn.heap.size, 0, none⟩))
    rw [World.size_alloc] at h2
    refine ⟨?_, fun d hd => ?_⟩
    · rw [hWo]
      exact (RowS.up (B' := Wn.heap.size + 3) (RowS.below h2 ((Below.refl _ _).alloc (by simp) _)) (by omega)).up (by simp)
    · obtain rfl : d = ⟨4, some ⟨Wn.heap.size, 0, none⟩, 2, 2, [1, 3]⟩ := by simpa [kds] using hd
      rw [hWo]
      exact ((Row1.below h1 ((Below.refl _ _).alloc (by simp) _)).below ((Below.refl _ _).alloc (by simp) _)).up (by simp))
  have HRo : Hid (RulAt Wo Wo.heap.size ⟨some ⟨Wn.heap.size + 1 + 1, 0, none⟩, 1, 1, none, 0, 0, none, 0, 0⟩ krl) := Lib.hid (by
    have h2 := rowS_new ((Wn.alloc (.cells #[.int .i64 1, .int .i64 3] 3)).alloc (.cells #[.int .i64 4, .slice (some ⟨Wn.heap.size, 0, none⟩) 2 2] 62)) 5 R5.cell 73 [⟨4, 5, 0, 14, 51⟩]
    rw [World.size_alloc, World.size_alloc] at h2
    refine ⟨?_, RowS.nil _ _ _ _ _, RowS.nil _ _ _ _ _, by dsimp only; omega, by dsimp only; omega, by dsimp only; omega⟩
    rw [hWo]
    exact RowS.up h2 (by simp))
  have HRp : Hid (Row1 intV Wo Wo.heap.size A1 14 L1) := Lib.hid (HR3.out.keep hbo)
  have HBo := Lib.hid (HBn.out.trans (hbo.mono HBn.out.size))
  clear hbo
  go_wp2_with fail
  rw [← hWo]
  clear hWo
  refine (RT.out _ _).mono ?_
  rintro e Wp ⟨rfl, hbp⟩
  have HBp := Lib.hid (HBo.out.trans (hbp.mono HBo.out.size))
  have HRq := Lib.hid (HRp.out.keep hbp)
  have HP := Lib.hid (problem_any (some ⟨Wn.heap.size + 1, 0, none⟩) 1 1 ⟨some ⟨Wn.heap.size + 1 + 1, 0, none⟩, 1, 1, none, 0, 0, none, 0, 0⟩ 24 Wp _ krl (by omega) (fun d hd => by (obtain rfl : d = ⟨4, some ⟨Wn.heap.size, 0, none⟩, 2, 2, [1, 3]⟩ := (by simpa [kds] using hd)); dsimp only; omega) (HDo.out.keep hbp) (HRo.out.keep hbp))
  rw [probF_adr] at HP
  unfold RulS.val at HP
  dsimp only at HP
  clear hbp HRp HDo HRo
  go_wp2_with fail
  refine HP.out.mono ?_
  rintro e Wq ⟨⟨dA, dn, dc, ⟨pA, pn, pc, lA, ln, lc, kA, kn, kc⟩⟩, ds, rfl, hat, hsay, hbq⟩
  obtain ⟨K1, K2, K3⟩ := kd11
  rw [K1]
  have HBq := Lib.hid (HBp.out.trans (hbq.mono HBp.out.size))
  have HRr := Lib.hid (HRq.out.keep hbq)
  obtain ⟨d, hds, hdl⟩ : ∃ d : Dom, ds = [d] ∧ d.chs.length = 19 := by
    have h := K2
    rw [← hsay, List.map_map] at h
    match ds, h with
    | [], h => simp at h
    | [d], h => exact ⟨d, rfl, (by simpa [Dom.say] using h : d.st = 4 ∧ d.chs.length = 19).2⟩
    | _ :: _ :: _, h => simp at h
  have hpn : pn = 0 := by have := hat.2.1.1; rw [K3] at this; exact this.symm
  have hdn : dn = 1 := by have := hat.1.1.1; rw [hds] at this; exact this.symm
  have hlen : d.len = 19 := by have := (hat.1.2 d (by rw [hds]; simp)).1; omega
  subst hds hpn hdn
  obtain ⟨b, off, hA, hbl, hc⟩ := hat.1.1.2 (by dsimp only; omega)
  dsimp only at hA hbl hc
  subst hA
  have c1 := hc 0 d rfl 1 (by decide)
  simp only [Dom.cell, hlen, Nat.zero_mul, Nat.add_zero] at c1
  obtain ⟨b2, off2, hA2, hbl2, hc2⟩ := HRr.out.2 (by decide)
  subst hA2
  have e0 := hc2 0 _ HK3.out
  have e1 := hc2 13 _ HK4.out
  simp only [intV, Nat.add_zero] at e0 e1
  obtain ⟨dst, dad, dle, dca, dch⟩ := d
  dsimp only at c1 hlen
  unfold PrbS.val
  dsimp only
  clear hat hsay hbq hc hc2 K1 K2 K3 HP hdl hlen
  go_wp2_with fail
  go_ret
  exact ⟨rfl, HBq.out.alloc HBq.out.size _⟩
end Go.Proofs.YtpdhelhngdeoeaaDoor
