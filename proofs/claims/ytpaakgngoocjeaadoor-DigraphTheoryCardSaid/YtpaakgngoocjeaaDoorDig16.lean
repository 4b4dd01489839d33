/- All that the laws of digraph share: the contracts of the program and of the reference, the theory. -/
import Derived.Test.YtpaakgngoocjeaaDoorDig02
import Derived.Test.YtpaakgngoocjeaaDoorDig04
import Derived.Test.YtpaakgngoocjeaaDoorDig12
import Derived.Test.YtpaakgngoocjeaaDoorDig14
import Derived.Test.YtpaakgngoocjeaaDoorDig15
/- The contract of the reference's Cycle. -/
namespace Go.Proofs.YtpaakgngoocjeaaDoor
open Go.RowKit

/-- what Cycle of the reference returns -/
def RCy (S : List Nat) (C : List Nat) : Prop := (C = [] ∧ ∀ v, v < S.length → (partL S v).length < 2) ∨
  ∃ (t : Nat) (D : List Int), t < S.length ∧ (∀ v, v < t → (partL S v).length < 2) ∧ 2 ≤ (partL S t).length ∧ (∀ v, v < S.length → D.getD v 0 = farZ S v t) ∧ CySt S D t C t [t]

set_option maxRecDepth 100000 in
set_option maxHeartbeats 1000000 in
theorem rcycle_any (n : Nat) (Al : Option Addr) (m c : Nat) (A : List (Int × Int)) (C : List Nat) (w : World) (hn : n ≤ 512) (hm : m ≤ 100000) (hl : RowS 2 arcV w w.heap.size Al m A) (hN : NoLoop (graphOf n A)) (hC : RCy (graphOf n A) C) :
    Calls Tryd.prog 32 #[.int .i64 n, .slice Al m c] w (NewInts (zs C) w) := by
  obtain ⟨i0, hi, hz0, hz1, hz2⟩ := info_parts int_info
  have HNX : Hid (∀ (x : Int) W, Below w.heap.size w W → Calls Tryd.prog 23 #[.int .i64 n, .slice Al m c, .int .i64 x] W (NewInts (nextL A x n) W)) := Lib.hid (fun x W hb => rnext_any n Al m c x W A (by omega) hm ((hl.below hb).up hb.size))
  have HRC : Hid (∀ (x : Nat) W, x < n → Below w.heap.size w W → Calls Tryd.prog 53 #[.int .i64 n, .slice Al m c, .int .i64 x] W (NewInts (zs (partL (graphOf n A) x)) W)) := Lib.hid (fun x W hx hb => rcomp_any n Al m c A x W hn hm ((hl.below hb).up hb.size) hx)
  have HFR : Hid (∀ (x y : Nat) W, x < n → y < n → Below w.heap.size w W → Calls Tryd.prog 56 #[.int .i64 n, .slice Al m c, .int .i64 x, .int .i64 y] W (RetPost (.int .i64 (farZ (graphOf n A) x y)) W.heap.size W)) := Lib.hid (fun x y W hx hy hb => rfar_any n Al m c A x y W hn hm ((hl.below hb).up hb.size) hx hy)
  have HI := Lib.hid (graphOf_in n A)
  have HLN : Hid ((graphOf n A).length = n) := Lib.hid (graphOf_len n A)
  have HF := Lib.hid (graphOf_fit hn A)
  have HMI := Lib.hid (fun x => memI_rowOf hn A x)
  have HGD : Hid (∀ x, x < n → (graphOf n A).getD x 0 = rowOf n A x) := Lib.hid (fun x hx => graphOf_getD hx)
  have HNL := Lib.hid hN
  have HC := Lib.hid hC
  generalize graphOf n A = S at *
  clear hl hN hC
  go_enter Tryd.func32, Tryd.ntmps32
  go_wp2_with fail
  go_loopw [5] (fun i wr => ∃ q : Nat, q ≤ n ∧ i = .int .i64 q ∧ (∀ u, u < q → (partL S u).length < 2) ∧ Below w.heap.size w wr) (fun i _ => n - (intOf i).toNat)
  case atStart => exact ⟨0, Nat.zero_le _, rfl, fun u hu => by omega, Below.refl _ _⟩
  case round =>
    obtain ⟨t, hq, rfl, hno, hB⟩ := hrel
    have HB := Lib.hid hB
    have HNO := Lib.hid hno
    by_cases hlt : t < n
    · have j0 : (t : Int) < (n : Int) := by omega
      have HC1 := Lib.hid (HRC.out t wr hlt hB)
      have hpl : (partL S t).length ≤ 512 := by
        have h1 := mem_len (reachM S t)
        have h2 := List.length_filter_le (fun w => (reachM S w).testBit t) (mem (reachM S t))
        unfold partL; omega
      have HPN : Eqn (partL S t) (partL S t) := rfl
      generalize hpt : partL S t = pt at HPN HC1 hpl
      have HPT := Eqn.mk hpt
      clear hB hno hpt HPN
      by_cases h2 : pt.length < 2
      · have j1 : (pt.length : Int) < 2 := by omega
        have HNO2 : Hid (∀ u, u < t + 1 → (partL S u).length < 2) := Lib.hid (fun u hu => by
          rcases Nat.lt_or_ge u t with h | h
          · exact HNO.out u h
          · have : u = t := by omega
            rw [this, HPT.out]; exact h2)
        go_wp2_with fail
        refine HC1.out.mono ?_
        rintro e w1 ⟨v1, rfl, hown1, hb1⟩
        rw [zs_len] at hown1
        obtain ⟨A1, c1, rfl, _⟩ := row1_of_own hown1
        have HB1 := Lib.hid (HB.out.trans (hb1.mono HB.out.size))
        clear hown1 hb1
        go_wp2_with fail
        go_roundw
        case rel => exact ⟨t + 1, hlt, by go_num, HNO2.out, HB1.out⟩
        case measure => simp [intOf]; omega
      · have j1 : ¬ (pt.length : Int) < 2 := by omega
        obtain ⟨D, hD, hCY⟩ : ∃ D : List Int, (∀ v, v < S.length → D.getD v 0 = farZ S v t) ∧ CySt S D t C t [t] := by
          rcases HC.out with ⟨_, h3⟩ | ⟨t', D, h3, h4, h5, h6, h7⟩
          · have := h3 t (by rw [HLN.out]; exact hlt)
            rw [HPT.out] at this; exact absurd this h2
          · have : t' = t := by
              rcases Nat.lt_trichotomy t' t with h | h | h
              · have := HNO.out t' h; omega
              · exact h
              · have := h4 t h; rw [HPT.out] at this; exact absurd this h2
            subst this
            exact ⟨D, h6, h7⟩
        have HD := Lib.hid hD
        have HCY := Lib.hid hCY
        have HFAR := Lib.hid (fun x W hx hb => HFR.out x t W hx hlt hb)
        have hCl : C.length ≤ 702 := by have := (cyst_len HI.out HF.out (by rw [HLN.out]; exact hn) hD hCY).2; rw [List.length_singleton] at this; omega
        clear hD hCY HNO
        go_wp2_with fail
        refine HC1.out.mono ?_
        rintro e w1 ⟨v1, rfl, hown1, hb1⟩
        rw [zs_len] at hown1
        obtain ⟨A0, c0, rfl, _⟩ := row1_of_own hown1
        have HB1 := HB.out.trans (hb1.mono HB.out.size)
        have HP0 : Hid (Hp w w (w1.alloc (.cells #[.int .i64 (t : Int)] 3)) [.row (.slice (some ⟨w1.heap.size, 0, none⟩) 1 1) 3 1 1 [.int .i64 (t : Int)]] []) := Lib.hid ((((Hp.start w).keep HB1).alloc [.int .i64 (t : Int)] 3).toRow 0 1 1 rfl rfl (by decide))
        clear hown1 hb1 HB1
        go_upto_region 6 with fail
        obtain ⟨V0, hV0⟩ : ∃ V0, V0 = w1.alloc (.cells #[.int .i64 (t : Int)] 3) := ⟨_, rfl⟩
        rw [← hV0] at HP0 ⊢
        clear hV0
        go_wp2_with fail
        go_loopw [6, 7] (fun vo va wr => ∃ (a : Nat) (out : List Nat), va = .int .i64 a ∧ CySt S D t C a out ∧ a < S.length ∧ Hp w w wr [.row vo 3 1 out.length ((zs out).map intV)] []) (fun vo _ _ => C.length + 1 - slLen vo)
        case atStart => exact ⟨t, [t], rfl, HCY.out, by rw [HLN.out]; exact hlt, HP0.out⟩
        case round =>
          clear HP0 HB HCY
          obtain ⟨a, out, rfl, hcy, hal, hP⟩ := hrel
          have HP := Lib.hid hP
          obtain ⟨A1, c1, rfl⟩ := hP.form 0 rfl
          have hlen := cyst_len HI.out HF.out (by rw [HLN.out]; exact hn) HD.out hcy
          have hol := hlen.1
          have HSTEP := Lib.hid (cyst_step HI.out HF.out (by rw [HLN.out]; exact hn) HD.out hcy)
          have han : a < n := by rw [HLN.out] at hal; exact hal
          have HN1 := HNX.out (a : Int) wr hP.below
          rw [← HMI.out a] at HN1
          replace HN1 := Lib.hid HN1
          have HRW : Hid (∀ u, u ∈ mem (rowOf n A a) ↔ Ed S a u) := Lib.hid (fun u => by rw [← HGD.out a han]; exact ed_row HF.out)
          have HRG : Hid (mem (S.getD a 0) = mem (rowOf n A a)) := Lib.hid (by rw [HGD.out a han])
          have HNE : Hid (memI (rowOf n A a) = zs (mem (rowOf n A a))) := Lib.hid rfl
          rw [HNE.out] at HN1
          rw [HRG.out] at HSTEP
          have hnl := mem_len (rowOf n A a)
          generalize mem (rowOf n A a) = nx at *
          clear hP hcy hal HNE HRG hlen
          by_cases hat : a = t
          · obtain rfl := hat.symm
            have HNT : Hid (¬ Ed S t t) := Lib.hid (HNL.out t)
            obtain ⟨bst, hbe, hcy2, hbl⟩ := HSTEP.out.1 ⟨by rw [HLN.out]; exact han, fun h => h.1 rfl⟩
            have HBE := Lib.hid hbe
            have HCY2 := Lib.hid hcy2
            have HBL := Lib.hid hbl
            have hl2 := (cyst_len HI.out HF.out (by rw [HLN.out]; exact hn) HD.out hcy2).1
            rw [List.length_append, List.length_singleton] at hl2
            clear hbe hcy2 hbl HSTEP
            go_wp2_with fail
            refine HN1.out.mono ?_
            rintro e w1 ⟨v1, rfl, hown1, hb1⟩
            have hP1 := HP.out.pushRow hb1 hown1
            rw [zs_len] at hP1
            have HP1 := Lib.hid hP1
            obtain ⟨A2, c2, rfl⟩ := hP1.form 1 rfl
            clear hb1 hown1 hP1 HN1 HP
            go_wp2_with fail
            go_loopw [9, 10] (fun vb i wr => ∃ q : Nat, q ≤ nx.length ∧ i = .int .i64 q ∧ vb = .int .i64 ((nx.take q).foldl (bestStep D) (-1)) ∧ Hp w w wr [.row (.slice A1 out.length c1) 3 1 out.length ((zs out).map intV), .row (.slice A2 nx.length c2) 3 1 nx.length ((zs nx).map intV)] []) (fun _ i _ => nx.length - (intOf i).toNat)
            case atStart => exact ⟨0, Nat.zero_le _, rfl, rfl, HP1.out⟩
            case round =>
              clear HP1
              obtain ⟨q, hq, rfl, rfl, hP⟩ := hrel
              have HP := Lib.hid hP
              by_cases hlt2 : q < nx.length
              · have j2 : (q : Int) < (nx.length : Int) := by omega
                obtain ⟨y, hy⟩ : ∃ y, nx[q]? = some y := ⟨_, List.getElem?_eq_getElem hlt2⟩
                have HYV : Hid (((zs nx).map intV)[q]? = some (.int .i64 (y : Int))) := Lib.hid (by unfold zs; rw [List.getElem?_map, List.getElem?_map, hy]; rfl)
                obtain ⟨g2, d2, e2, y0, y1, y2⟩ := hP.at 1 q rfl HYV.out
                injection e2 with e2 _ e2c
                subst e2 e2c
                have hyE := HRW.out y |>.1 (List.mem_of_getElem? hy)
                have hyn := (ed_lt HI.out hyE).2
                rw [HLN.out] at hyn
                have hyt : y ≠ t := fun e => by have h := hyE; rw [e] at h; exact HNT.out h
                have HB := Lib.hid (bests_lt D n (nx.take q) (-1) (fun x hx => by have := (ed_lt HI.out ((HRW.out x).1 (List.mem_of_mem_take hx))).2; rw [HLN.out] at this; exact this) (fun _ => rfl) (by omega))
                have HSU : Eqn ((nx.take (q + 1)).foldl (bestStep D) (-1)) (bestStep D ((nx.take q).foldl (bestStep D) (-1)) y) := by rw [Eqn, List.take_add_one, hy, List.foldl_append]; rfl
                have HF1 := HFAR.out y wr hyn hP.below
                rw [← HD.out y (by rw [HLN.out]; exact hyn)] at HF1
                have hdy : D.getD y 0 ≠ 0 := by
                  rw [HD.out y (by rw [HLN.out]; exact hyn)]
                  exact fun h => hyt (far_zero.1 h)
                have HF1 := Lib.hid HF1
                generalize (nx.take q).foldl (bestStep D) (-1) = b at *
                have HBS : Eqn (bestStep D b y) (if 0 < D.getD y 0 ∧ (b < 0 ∨ D.getD y 0 < D.getD b.toNat 0) then (y : Int) else b) := rfl
                have HDB : Hid (∀ x W, x < n → Below w.heap.size w W → Calls Tryd.prog 56 #[.int .i64 n, .slice Al m c, .int .i64 x, .int .i64 t] W (RetPost (.int .i64 (D.getD x 0)) W.heap.size W)) := Lib.hid (fun x W hx hb => by rw [HD.out x (by rw [HLN.out]; exact hx)]; exact HFAR.out x W hx hb)
                generalize hdv : D.getD y 0 = dy at *
                clear hP hy hyE hyn hyt hdv
                by_cases hd0 : 0 ≤ dy
                · have hdp : 0 < dy := by omega
                  by_cases hb0 : b < 0
                  · have HS2 : Hid (bestStep D b y = (y : Int)) := Lib.hid (by rw [HBS.out, if_pos ⟨hdp, .inl hb0⟩])
                    clear HBS
                    go_wp2_with fail
                    refine HF1.out.mono ?_
                    rintro e w3 ⟨rfl, hb3⟩
                    have HP3 := Lib.hid (HP.out.keep hb3)
                    obtain ⟨g3, d3, e3, z0, z1, z2⟩ := HP3.out.at 1 q rfl HYV.out
                    injection e3 with e3 _ e3c
                    injection e3 with e3
                    injection e3 with e3
                    subst e3 e3c
                    clear y0 y1 y2 hb3 HF1 HP
                    go_wp2_with fail
                    go_roundw
                    case rel => exact ⟨q + 1, hlt2, by go_num, by rw [HSU.out, HS2.out], HP3.out⟩
                    case measure => simp [intOf]; omega
                  · obtain ⟨bn, hbn⟩ : ∃ bn : Nat, b = (bn : Int) := ⟨b.toNat, by omega⟩
                    subst hbn
                    have hbl : bn < n := by have := HB.out.2; omega
                    have HBS2 : Eqn (bestStep D (bn : Int) y) (if dy < D.getD bn 0 then (y : Int) else (bn : Int)) := by
                      rw [Eqn, HBS.out, Int.toNat_natCast]
                      by_cases h : dy < D.getD bn 0
                      · rw [if_pos h, if_pos ⟨hdp, .inr h⟩]
                      · rw [if_neg h, if_neg (fun h2 => h2.2.elim (fun h3 => hb0 h3) h)]
                    clear HBS
                    go_wp2_with fail
                    refine HF1.out.mono ?_
                    rintro e w3 ⟨rfl, hb3⟩
                    have HP3 := Lib.hid (HP.out.keep hb3)
                    have HF2 := Lib.hid (HDB.out bn w3 hbl HP3.out.below)
                    generalize hdb : D.getD bn 0 = db at *
                    clear y0 y1 y2 hb3 HF1 HP hdb
                    by_cases hlt4 : dy < db
                    · have HS2 : Hid (bestStep D (bn : Int) y = (y : Int)) := Lib.hid (by rw [HBS2.out, if_pos hlt4])
                      clear HBS2
                      go_wp2_with fail
                      refine HF2.out.mono ?_
                      rintro e w4 ⟨rfl, hb4⟩
                      have HP4 := Lib.hid (HP3.out.keep hb4)
                      obtain ⟨g3, d3, e3, z0, z1, z2⟩ := HP4.out.at 1 q rfl HYV.out
                      injection e3 with e3 _ e3c
                      injection e3 with e3
                      injection e3 with e3
                      subst e3 e3c
                      clear hb4 HF2 HP3
                      go_wp2_with fail
                      go_roundw
                      case rel => exact ⟨q + 1, hlt2, by go_num, by rw [HSU.out, HS2.out], HP4.out⟩
                      case measure => simp [intOf]; omega
                    · have HS2 : Hid (bestStep D (bn : Int) y = (bn : Int)) := Lib.hid (by rw [HBS2.out, if_neg hlt4])
                      clear HBS2
                      go_wp2_with fail
                      refine HF2.out.mono ?_
                      rintro e w4 ⟨rfl, hb4⟩
                      have HP4 := Lib.hid (HP3.out.keep hb4)
                      clear hb4 HF2 HP3
                      go_wp2_with fail
                      go_roundw
                      case rel => exact ⟨q + 1, hlt2, by go_num, by rw [HSU.out, HS2.out], HP4.out⟩
                      case measure => simp [intOf]; omega
                · have HS2 : Hid (bestStep D b y = b) := Lib.hid (by rw [HBS.out, if_neg (fun h => hd0 (by omega))])
                  clear HBS
                  go_wp2_with fail
                  refine HF1.out.mono ?_
                  rintro e w3 ⟨rfl, hb3⟩
                  have HP3 := Lib.hid (HP.out.keep hb3)
                  clear y0 y1 y2 hb3 HF1 HP
                  go_wp2_with fail
                  go_roundw
                  case rel => exact ⟨q + 1, hlt2, by go_num, by rw [HSU.out, HS2.out], HP3.out⟩
                  case measure => simp [intOf]; omega
              · obtain rfl : q = nx.length := by omega
                rw [List.take_length, HBE.out] at *
                clear hP
                go_wp2_with (at_builtin; refine wpList_append_own_at _ rfl _ _ 36 rfl w.heap.size 3 i0 (.int .i64 0) 1 8 Tryd.underlying36 hi hz0 hz1 hz2 rfl (by decide) _ _ _ rfl ((HP.out.row 0 rfl).alloc _) ⟨wr.heap.size, 0, none⟩ 1 1 [.int .i64 ((bst : Int))] rfl rfl (cell_one_new _ _ _) (by simp [Value.oneCell']) (by unfold maxLen; omega) (by omega) (by have := HP.out.below.size; simp; omega) ?_; intro v6 w6 hown' hgrow _ hat; have HP6 := Lib.hid ((HP.out.alloc0 _).grow 0 rfl hgrow hown' hat); obtain ⟨A6, cp6, rfl⟩ := HP6.out.form 0 rfl; clear hown' hgrow hat)
                go_roundw
                case rel => exact ⟨bst, out ++ [bst], rfl, HCY2.out, HBL.out, by rw [zs_snoc, List.map_append, List.length_append]; exact HP6.out.sub (List.Sublist.cons_cons _ (List.nil_sublist _))⟩
                case measure => simp [slLen]; omega
          · have hat' : ((a : Int) == (t : Int)) = false := by simpa using fun e : (a : Int) = (t : Int) => hat (by omega)
            go_wp2_with fail
            refine HN1.out.mono ?_
            rintro e w1 ⟨v1, rfl, hown1, hb1⟩
            have hP1 := HP.out.pushRow hb1 hown1
            rw [zs_len] at hP1
            have HP1 := Lib.hid hP1
            obtain ⟨A2, c2, rfl⟩ := hP1.form 1 rfl
            have HIN := rin_any A2 nx.length c2 (t : Int) w1 _ (zs nx) (by omega) (by obtain ⟨A3', c3', e3, hr3⟩ := row1_of_own (hP1.row 1 rfl); injection e3 with e3 _ _; rw [← e3] at hr3; exact (by simpa [zs_len] using hr3))
            rw [inF_zs] at HIN
            clear hb1 hown1 hP1 HN1 HP
            by_cases htn : t ∈ nx
            · rw [decide_eq_true htn] at HIN
              have HIN := Lib.hid HIN
              have hoc := HSTEP.out.2 ⟨hat, (HRW.out t).1 htn⟩
              subst hoc
              clear htn HSTEP
              go_wp2_with fail
              refine HIN.out.mono ?_
              rintro e w2 ⟨rfl, rfl⟩
              go_wp2_with fail
              go_ret
              exact ⟨_, rfl, by rw [zs_len]; exact HP1.out.row 0 rfl, HP1.out.below⟩
            · rw [decide_eq_false htn] at HIN
              have HIN := Lib.hid HIN
              have HNT : Hid (¬ Ed S a t) := Lib.hid (fun h => htn ((HRW.out t).2 h))
              obtain ⟨bst, hbe, hcy2, hbl⟩ := HSTEP.out.1 ⟨by rw [HLN.out]; exact han, fun h => HNT.out h.2⟩
              have HBE := Lib.hid hbe
              have HCY2 := Lib.hid hcy2
              have HBL := Lib.hid hbl
              have hl2 := (cyst_len HI.out HF.out (by rw [HLN.out]; exact hn) HD.out hcy2).1
              rw [List.length_append, List.length_singleton] at hl2
              clear hbe hcy2 hbl HSTEP htn
              go_wp2_with fail
              refine HIN.out.mono ?_
              rintro e w2 ⟨rfl, rfl⟩
              go_wp2_with fail
              go_loopw [9, 10] (fun vb i wr => ∃ q : Nat, q ≤ nx.length ∧ i = .int .i64 q ∧ vb = .int .i64 ((nx.take q).foldl (bestStep D) (-1)) ∧ Hp w w wr [.row (.slice A1 out.length c1) 3 1 out.length ((zs out).map intV), .row (.slice A2 nx.length c2) 3 1 nx.length ((zs nx).map intV)] []) (fun _ i _ => nx.length - (intOf i).toNat)
              case atStart => exact ⟨0, Nat.zero_le _, rfl, rfl, HP1.out⟩
              case round =>
                clear HP1
                obtain ⟨q, hq, rfl, rfl, hP⟩ := hrel
                have HP := Lib.hid hP
                by_cases hlt2 : q < nx.length
                · have j2 : (q : Int) < (nx.length : Int) := by omega
                  obtain ⟨y, hy⟩ : ∃ y, nx[q]? = some y := ⟨_, List.getElem?_eq_getElem hlt2⟩
                  have HYV : Hid (((zs nx).map intV)[q]? = some (.int .i64 (y : Int))) := Lib.hid (by unfold zs; rw [List.getElem?_map, List.getElem?_map, hy]; rfl)
                  obtain ⟨g2, d2, e2, y0, y1, y2⟩ := hP.at 1 q rfl HYV.out
                  injection e2 with e2 _ e2c
                  subst e2 e2c
                  have hyE := HRW.out y |>.1 (List.mem_of_getElem? hy)
                  have hyn := (ed_lt HI.out hyE).2
                  rw [HLN.out] at hyn
                  have hyt : y ≠ t := fun e => by have h := hyE; rw [e] at h; exact HNT.out h
                  have HB := Lib.hid (bests_lt D n (nx.take q) (-1) (fun x hx => by have := (ed_lt HI.out ((HRW.out x).1 (List.mem_of_mem_take hx))).2; rw [HLN.out] at this; exact this) (fun _ => rfl) (by omega))
                  have HSU : Eqn ((nx.take (q + 1)).foldl (bestStep D) (-1)) (bestStep D ((nx.take q).foldl (bestStep D) (-1)) y) := by rw [Eqn, List.take_add_one, hy, List.foldl_append]; rfl
                  have HF1 := HFAR.out y wr hyn hP.below
                  rw [← HD.out y (by rw [HLN.out]; exact hyn)] at HF1
                  have hdy : D.getD y 0 ≠ 0 := by
                    rw [HD.out y (by rw [HLN.out]; exact hyn)]
                    exact fun h => hyt (far_zero.1 h)
                  have HF1 := Lib.hid HF1
                  generalize (nx.take q).foldl (bestStep D) (-1) = b at *
                  have HBS : Eqn (bestStep D b y) (if 0 < D.getD y 0 ∧ (b < 0 ∨ D.getD y 0 < D.getD b.toNat 0) then (y : Int) else b) := rfl
                  have HDB : Hid (∀ x W, x < n → Below w.heap.size w W → Calls Tryd.prog 56 #[.int .i64 n, .slice Al m c, .int .i64 x, .int .i64 t] W (RetPost (.int .i64 (D.getD x 0)) W.heap.size W)) := Lib.hid (fun x W hx hb => by rw [HD.out x (by rw [HLN.out]; exact hx)]; exact HFAR.out x W hx hb)
                  generalize hdv : D.getD y 0 = dy at *
                  clear hP hy hyE hyn hyt hdv
                  by_cases hd0 : 0 ≤ dy
                  · have hdp : 0 < dy := by omega
                    by_cases hb0 : b < 0
                    · have HS2 : Hid (bestStep D b y = (y : Int)) := Lib.hid (by rw [HBS.out, if_pos ⟨hdp, .inl hb0⟩])
                      clear HBS
                      go_wp2_with fail
                      refine HF1.out.mono ?_
                      rintro e w3 ⟨rfl, hb3⟩
                      have HP3 := Lib.hid (HP.out.keep hb3)
                      obtain ⟨g3, d3, e3, z0, z1, z2⟩ := HP3.out.at 1 q rfl HYV.out
                      injection e3 with e3 _ e3c
                      injection e3 with e3
                      injection e3 with e3
                      subst e3 e3c
                      clear y0 y1 y2 hb3 HF1 HP
                      go_wp2_with fail
                      go_roundw
                      case rel => exact ⟨q + 1, hlt2, by go_num, by rw [HSU.out, HS2.out], HP3.out⟩
                      case measure => simp [intOf]; omega
                    · obtain ⟨bn, hbn⟩ : ∃ bn : Nat, b = (bn : Int) := ⟨b.toNat, by omega⟩
                      subst hbn
                      have hbl : bn < n := by have := HB.out.2; omega
                      have HBS2 : Eqn (bestStep D (bn : Int) y) (if dy < D.getD bn 0 then (y : Int) else (bn : Int)) := by
                        rw [Eqn, HBS.out, Int.toNat_natCast]
                        by_cases h : dy < D.getD bn 0
                        · rw [if_pos h, if_pos ⟨hdp, .inr h⟩]
                        · rw [if_neg h, if_neg (fun h2 => h2.2.elim (fun h3 => hb0 h3) h)]
                      clear HBS
                      go_wp2_with fail
                      refine HF1.out.mono ?_
                      rintro e w3 ⟨rfl, hb3⟩
                      have HP3 := Lib.hid (HP.out.keep hb3)
                      have HF2 := Lib.hid (HDB.out bn w3 hbl HP3.out.below)
                      generalize hdb : D.getD bn 0 = db at *
                      clear y0 y1 y2 hb3 HF1 HP hdb
                      by_cases hlt4 : dy < db
                      · have HS2 : Hid (bestStep D (bn : Int) y = (y : Int)) := Lib.hid (by rw [HBS2.out, if_pos hlt4])
                        clear HBS2
                        go_wp2_with fail
                        refine HF2.out.mono ?_
                        rintro e w4 ⟨rfl, hb4⟩
                        have HP4 := Lib.hid (HP3.out.keep hb4)
                        obtain ⟨g3, d3, e3, z0, z1, z2⟩ := HP4.out.at 1 q rfl HYV.out
                        injection e3 with e3 _ e3c
                        injection e3 with e3
                        injection e3 with e3
                        subst e3 e3c
                        clear hb4 HF2 HP3
                        go_wp2_with fail
                        go_roundw
                        case rel => exact ⟨q + 1, hlt2, by go_num, by rw [HSU.out, HS2.out], HP4.out⟩
                        case measure => simp [intOf]; omega
                      · have HS2 : Hid (bestStep D (bn : Int) y = (bn : Int)) := Lib.hid (by rw [HBS2.out, if_neg hlt4])
                        clear HBS2
                        go_wp2_with fail
                        refine HF2.out.mono ?_
                        rintro e w4 ⟨rfl, hb4⟩
                        have HP4 := Lib.hid (HP3.out.keep hb4)
                        clear hb4 HF2 HP3
                        go_wp2_with fail
                        go_roundw
                        case rel => exact ⟨q + 1, hlt2, by go_num, by rw [HSU.out, HS2.out], HP4.out⟩
                        case measure => simp [intOf]; omega
                  · have HS2 : Hid (bestStep D b y = b) := Lib.hid (by rw [HBS.out, if_neg (fun h => hd0 (by omega))])
                    clear HBS
                    go_wp2_with fail
                    refine HF1.out.mono ?_
                    rintro e w3 ⟨rfl, hb3⟩
                    have HP3 := Lib.hid (HP.out.keep hb3)
                    clear y0 y1 y2 hb3 HF1 HP
                    go_wp2_with fail
                    go_roundw
                    case rel => exact ⟨q + 1, hlt2, by go_num, by rw [HSU.out, HS2.out], HP3.out⟩
                    case measure => simp [intOf]; omega
                · obtain rfl : q = nx.length := by omega
                  rw [List.take_length, HBE.out] at *
                  clear hP
                  go_wp2_with (at_builtin; refine wpList_append_own_at _ rfl _ _ 36 rfl w.heap.size 3 i0 (.int .i64 0) 1 8 Tryd.underlying36 hi hz0 hz1 hz2 rfl (by decide) _ _ _ rfl ((HP.out.row 0 rfl).alloc _) ⟨wr.heap.size, 0, none⟩ 1 1 [.int .i64 ((bst : Int))] rfl rfl (cell_one_new _ _ _) (by simp [Value.oneCell']) (by unfold maxLen; omega) (by omega) (by have := HP.out.below.size; simp; omega) ?_; intro v6 w6 hown' hgrow _ hat; have HP6 := Lib.hid ((HP.out.alloc0 _).grow 0 rfl hgrow hown' hat); obtain ⟨A6, cp6, rfl⟩ := HP6.out.form 0 rfl; clear hown' hgrow hat)
                  go_roundw
                  case rel => exact ⟨bst, out ++ [bst], rfl, HCY2.out, HBL.out, by rw [zs_snoc, List.map_append, List.length_append]; exact HP6.out.sub (List.Sublist.cons_cons _ (List.nil_sublist _))⟩
                  case measure => simp [slLen]; omega
    · have HCE : Hid (C = []) := Lib.hid (by
        rcases HC.out with ⟨h, _⟩ | ⟨t', D, h3, h4, h5, h6, h7⟩
        · exact h
        · rw [HLN.out] at h3
          have := hno t' (by omega)
          omega)
      have j0 : ¬ (t : Int) < (n : Int) := by omega
      clear hno hB
      go_wp2_with fail
      go_ret
      exact ⟨_, rfl, by rw [HCE.out]; exact World.ownsRow_nil _ _ _ _, HB.out⟩
end Go.Proofs.YtpaakgngoocjeaaDoor

/- The contract of the reference's Longest. -/
namespace Go.Proofs.YtpaakgngoocjeaaDoor
open Go.RowKit

theorem turnA_take {A : List (Int × Int)} {X : List Int} {k : Nat} {p : Int × Int} (h : A[k]? = some p) : turnA (A.take (k + 1)) X = relA (turnA (A.take k) X) p := by unfold turnA; rw [List.take_add_one, h, List.foldl_append]; rfl
/-- no number is greater than the arcs that were seen -/
theorem relA_le {X : List Int} {p : Int × Int} {M : Int} (h : ∀ j, 0 ≤ X.getD j 0 ∧ X.getD j 0 ≤ M) : ∀ j, 0 ≤ (relA X p).getD j 0 ∧ (relA X p).getD j 0 ≤ M + 1 := by
  intro j
  unfold relA
  split
  · rw [List.getD_eq_getElem?_getD, List.getElem?_set]
    split
    · split
      · have := h p.1.toNat; simp only [Option.getD_some]; omega
      · simp; have := h j; omega
    · rw [← List.getD_eq_getElem?_getD]; have := h j; omega
  · have := h j; omega
theorem turnA_le {A : List (Int × Int)} : ∀ {X : List Int} {M : Int}, (∀ j, 0 ≤ X.getD j 0 ∧ X.getD j 0 ≤ M) → ∀ j, 0 ≤ (turnA A X).getD j 0 ∧ (turnA A X).getD j 0 ≤ M + A.length := by
  induction A with
  | nil => intro X M h j; have := h j; exact ⟨this.1, by simpa [turnA] using this.2⟩
  | cons p r ih =>
    intro X M h j
    have := ih (relA_le (p := p) h) j
    rw [List.length_cons]
    exact ⟨this.1, by have h2 := this.2; show (turnA r (relA X p)).getD j 0 ≤ _; omega⟩
theorem lgR_le (n : Nat) (A : List (Int × Int)) : ∀ t j, 0 ≤ (lgR n A t).getD j 0 ∧ (lgR n A t).getD j 0 ≤ (t * A.length : Nat) := by
  intro t
  induction t with
  | zero => intro j; have e : (lgR n A 0).getD j 0 = 0 := by { unfold lgR; rw [List.getD_eq_getElem?_getD, List.getElem?_replicate]; split <;> rfl }; rw [e]; simp
  | succ t ih =>
    intro j
    have := turnA_le (A := A) ih j
    rw [Nat.succ_mul]
    exact ⟨this.1, by have h2 := this.2; show (turnA A (lgR n A t)).getD j 0 ≤ _; omega⟩

set_option maxRecDepth 100000 in
set_option maxHeartbeats 1000000 in
theorem rlongest_any (n : Nat) (Al : Option Addr) (m c : Nat) (A : List (Int × Int)) (w : World) (hn : n ≤ 512) (hm : m ≤ 1000) (hl : RowS 2 arcV w w.heap.size Al m A) (hA : ∀ p ∈ A, (0 ≤ p.1 ∧ p.1 < (n : Int)) ∧ 0 ≤ p.2 ∧ p.2 < (n : Int)) :
    Calls Tryd.prog 36 #[.int .i64 n, .slice Al m c] w (NewInts (lgR n A n) w) := by
  obtain ⟨i0, hi, hz0, hz1, hz2⟩ := info_parts int_info
  have HL := Lib.hid hl
  have HA := Lib.hid hA
  have HAL : Hid (A.length = m) := Lib.hid hl.1
  clear hl hA
  go_enter Tryd.func36, Tryd.ntmps36
  go_wp2_with (at_make; refine wpList_make_full _ rfl _ _ 36 rfl w.heap.size 3 i0 (.int .i64 0) 1 Tryd.underlying36 hi hz0 hz1 .i64 .i64 _ _ n rfl rfl rfl rfl (by rw [hz2]; omega) (by unfold maxLen; omega) (Nat.le_refl _) ?_; intro w2 hown hgrow; rw [made_ints] at hown; have HP2 := Lib.hid ((Hp.start w).made hown hgrow (Nat.le_refl _)); clear hown hgrow)
  go_loopw [6] (fun i wr => ∃ t : Nat, t ≤ n ∧ i = .int .i64 t ∧ Hp w w wr [.blk w.heap.size 3 ((lgR n A t).map intV)] []) (fun i _ => n - (intOf i).toNat)
  case atStart => exact ⟨0, Nat.zero_le _, rfl, HP2.out⟩
  case round =>
    clear HP2
    obtain ⟨t, ht, rfl, hP⟩ := hrel
    have HP := Lib.hid hP
    by_cases hlt : t < n
    · have j0 : (t : Int) < (n : Int) := by omega
      have HTL := Lib.hid (lgR_le n A t)
      have HLL := Lib.hid (lgR_len n A t)
      have HNX : Eqn (lgR n A (t + 1)) (turnA A (lgR n A t)) := rfl
      have htm : t * A.length ≤ 512 * 1000 := Nat.mul_le_mul (by omega) (by rw [HAL.out]; omega)
      rw [HAL.out] at htm HTL
      generalize hX : lgR n A t = X at *
      have HT0 : Hid (turnA (A.take 0) X = X) := Lib.hid rfl
      clear hP hX
      go_wp2_with fail
      go_loopw [7] (fun i wr => ∃ k : Nat, k ≤ m ∧ i = .int .i64 k ∧ Hp w w wr [.blk w.heap.size 3 ((turnA (A.take k) X).map intV)] []) (fun i _ => m - (intOf i).toNat)
      case atStart => exact ⟨0, Nat.zero_le _, rfl, by rw [HT0.out]; exact HP.out⟩
      case round =>
        clear HP
        obtain ⟨k, hk, rfl, hP⟩ := hrel
        have HP := Lib.hid hP
        by_cases hlt2 : k < m
        · have j1 : (k : Int) < (m : Int) := by omega
          obtain ⟨p, hp⟩ : ∃ p, A[k]? = some p := ⟨_, List.getElem?_eq_getElem (by rw [HAL.out]; exact hlt2)⟩
          obtain ⟨b, off, rfl, hbw, hcell⟩ := (HL.out.below hP.below).2 (by omega)
          have y0 : wr.cell? ⟨b, off + k * 2, none⟩ = some (.int .i64 p.1) := hcell k p hp 0 (by decide)
          have y1 : wr.cell? ⟨b, off + k * 2 + 1, none⟩ = some (.int .i64 p.2) := hcell k p hp 1 (by decide)
          have HST := Eqn.mk (turnA_take (X := X) hp)
          have HYL : Hid ((turnA (A.take k) X).length = n) := Lib.hid (by rw [turnA_len]; exact HLL.out)
          have hle := turnA_le (A := A.take k) HTL.out
          rw [List.length_take] at hle
          have HYB := Lib.hid hle
          obtain ⟨⟨ha0, ha1⟩, hb0, hb1⟩ := HA.out p (List.mem_of_getElem? hp)
          obtain ⟨pa, pb⟩ := p
          dsimp only at *
          obtain ⟨a', rfl⟩ : ∃ a' : Nat, pa = (a' : Int) := ⟨pa.toNat, (Int.toNat_of_nonneg ha0).symm⟩
          obtain ⟨b', rfl⟩ : ∃ b' : Nat, pb = (b' : Int) := ⟨pb.toNat, (Int.toNat_of_nonneg hb0).symm⟩
          generalize turnA (A.take k) X = Y at *
          obtain ⟨ya, hya⟩ : ∃ z, Y[a']? = some z := ⟨_, List.getElem?_eq_getElem (by rw [HYL.out]; omega)⟩
          obtain ⟨yb, hyb⟩ : ∃ z, Y[b']? = some z := ⟨_, List.getElem?_eq_getElem (by rw [HYL.out]; omega)⟩
          have cA := hP.cI 0 a' rfl hya
          have cB := hP.cI 0 b' rfl hyb
          have fA := hP.f 0 rfl
          have lA := hP.lt 0 rfl
          have eya : Y.getD a' 0 = ya := by rw [List.getD_eq_getElem?_getD, hya]; rfl
          have eyb : Y.getD b' 0 = yb := by rw [List.getD_eq_getElem?_getD, hyb]; rfl
          have hyab := HYB.out a'
          rw [eya] at hyab
          have hya1 : 0 ≤ ya ∧ ya ≤ 1000000 := ⟨hyab.1, by have := hyab.2; omega⟩
          have HRE : Eqn (relA Y ((a' : Int), (b' : Int))) (if yb < ya + 1 then Y.set b' (ya + 1) else Y) := by
            rw [Eqn]; unfold relA; simp only [Int.toNat_natCast]; rw [eya, eyb]
          have e1 : IntKind.i64.wrap (ya + 1) = ya + 1 := IntWalk.i64_in _ (by omega)
          have w0 : wrap64 (ya + 1) = ya + 1 := by unfold wrap64; omega
          clear hP hp hcell hya hyb eya eyb hyab hle hbw
          by_cases hc : yb < ya + 1
          · rw [if_pos hc] at HRE
            go_wp2_with fail
            refine Lx.region (C := fun _ => True) (hs := []) (by kernel_rfl) (by kernel_rfl) trivial ?_
            repeat' (first
              | (refine Lx.lex_no (Lx.n1 rfl rfl rfl (by with_reducible rfl)) (fun K hK => ?_); go_simp; refine hK _ ?_; clear hK K)
              | (refine Lx.lex_no (Lx.n0 rfl rfl rfl (by with_reducible rfl)) (fun K hK => ?_); go_simp; refine hK _ ?_; clear hK K)
              | (refine Lx.lex_no (Lx.n2 rfl rfl rfl) (fun K hK => ?_); go_simp; refine hK _ ?_; clear hK K)
              | (refine Lx.lex_pure (v := ?_) rfl (by first | exact Lx.w0 rfl | exact Lx.w1 rfl rfl rfl (by with_reducible rfl)) ?_ (fun K hK => ?_); rotate_left 1; (intro w' hCw; (try dsimp only at hCw); go_simp; done); go_simp; refine hK _ ?_; clear hK K)
              | (refine Lx.lex_pure (v := ?_) rfl (by first | exact Lx.w0 rfl | exact Lx.w1 rfl rfl rfl (by with_reducible rfl)) ?_ (fun K hK => ?_); rotate_left 1; (intro w' hCw; (try dsimp only at hCw); go_simp; with_reducible rfl); go_simp; refine hK _ ?_; clear hK K)
              | (refine Lx.lex_read (v := ?_) rfl (by first | exact Lx.w0 rfl | exact Lx.w1 rfl rfl rfl (by with_reducible rfl)) ?_ (fun K hK => ?_); rotate_left 1; (go_simp; done); go_simp; refine hK _ ?_; clear hK K)
              | (refine Lx.lex_read (v := ?_) rfl (by first | exact Lx.w0 rfl | exact Lx.w1 rfl rfl rfl (by with_reducible rfl)) ?_ (fun K hK => ?_); rotate_left 1; (go_simp; with_reducible rfl); go_simp; refine hK _ ?_; clear hK K)
              | (refine Lx.lex_eff rfl (by first | exact Lx.w0 rfl | exact Lx.w1 rfl rfl rfl (by with_reducible rfl)) (fun K hK => ?_); go_simp; (first | skip | skip); refine hK _ _ (trivial) ?_; clear hK K)
              | (refine Lx.lex_cases rfl rfl rfl (fun hgd K hK => ?_) (fun hgd K hK => ?_) <;> (try simp only [decide_eq_true_eq, decide_eq_false_iff_not] at hgd) <;> (first | (exfalso; omega) | (go_simp; refine hK _ ?_; clear hK K))))
            all_goals (refine Lx.lex_nil ?_)
            go_wp2_with fail
            refine Lx.region (C := fun _ => True) (hs := []) (by kernel_rfl) (by kernel_rfl) trivial ?_
            repeat' (first
              | (refine Lx.lex_no (Lx.n1 rfl rfl rfl (by with_reducible rfl)) (fun K hK => ?_); go_simp; refine hK _ ?_; clear hK K)
              | (refine Lx.lex_no (Lx.n0 rfl rfl rfl (by with_reducible rfl)) (fun K hK => ?_); go_simp; refine hK _ ?_; clear hK K)
              | (refine Lx.lex_no (Lx.n2 rfl rfl rfl) (fun K hK => ?_); go_simp; refine hK _ ?_; clear hK K)
              | (refine Lx.lex_pure (v := ?_) rfl (by first | exact Lx.w0 rfl | exact Lx.w1 rfl rfl rfl (by with_reducible rfl)) ?_ (fun K hK => ?_); rotate_left 1; (intro w' hCw; (try dsimp only at hCw); go_simp; done); go_simp; refine hK _ ?_; clear hK K)
              | (refine Lx.lex_pure (v := ?_) rfl (by first | exact Lx.w0 rfl | exact Lx.w1 rfl rfl rfl (by with_reducible rfl)) ?_ (fun K hK => ?_); rotate_left 1; (intro w' hCw; (try dsimp only at hCw); go_simp; with_reducible rfl); go_simp; refine hK _ ?_; clear hK K)
              | (refine Lx.lex_read (v := ?_) rfl (by first | exact Lx.w0 rfl | exact Lx.w1 rfl rfl rfl (by with_reducible rfl)) ?_ (fun K hK => ?_); rotate_left 1; (go_simp; done); go_simp; refine hK _ ?_; clear hK K)
              | (refine Lx.lex_read (v := ?_) rfl (by first | exact Lx.w0 rfl | exact Lx.w1 rfl rfl rfl (by with_reducible rfl)) ?_ (fun K hK => ?_); rotate_left 1; (go_simp; with_reducible rfl); go_simp; refine hK _ ?_; clear hK K)
              | (refine Lx.lex_eff rfl (by first | exact Lx.w0 rfl | exact Lx.w1 rfl rfl rfl (by with_reducible rfl)) (fun K hK => ?_); go_simp; (first | skip | skip); refine hK _ _ (trivial) ?_; clear hK K)
              | (refine Lx.lex_cases rfl rfl rfl (fun hgd K hK => ?_) (fun hgd K hK => ?_) <;> (try simp only [decide_eq_true_eq, decide_eq_false_iff_not] at hgd) <;> (first | (exfalso; omega) | (go_simp; refine hK _ ?_; clear hK K))))
            all_goals (refine Lx.lex_nil ?_)
            go_wp2_with fail
            go_roundw
            case rel => exact ⟨k + 1, hlt2, by go_num, by rw [HST.out, HRE.out]; exact (HP.out.drew.setI 0 b' (ya + 1) rfl).drew⟩
            case measure => simp [intOf]; omega
          · rw [if_neg hc] at HRE
            go_wp2_with fail
            refine Lx.region (C := fun _ => True) (hs := []) (by kernel_rfl) (by kernel_rfl) trivial ?_
            repeat' (first
              | (refine Lx.lex_no (Lx.n1 rfl rfl rfl (by with_reducible rfl)) (fun K hK => ?_); go_simp; refine hK _ ?_; clear hK K)
              | (refine Lx.lex_no (Lx.n0 rfl rfl rfl (by with_reducible rfl)) (fun K hK => ?_); go_simp; refine hK _ ?_; clear hK K)
              | (refine Lx.lex_no (Lx.n2 rfl rfl rfl) (fun K hK => ?_); go_simp; refine hK _ ?_; clear hK K)
              | (refine Lx.lex_pure (v := ?_) rfl (by first | exact Lx.w0 rfl | exact Lx.w1 rfl rfl rfl (by with_reducible rfl)) ?_ (fun K hK => ?_); rotate_left 1; (intro w' hCw; (try dsimp only at hCw); go_simp; done); go_simp; refine hK _ ?_; clear hK K)
              | (refine Lx.lex_pure (v := ?_) rfl (by first | exact Lx.w0 rfl | exact Lx.w1 rfl rfl rfl (by with_reducible rfl)) ?_ (fun K hK => ?_); rotate_left 1; (intro w' hCw; (try dsimp only at hCw); go_simp; with_reducible rfl); go_simp; refine hK _ ?_; clear hK K)
              | (refine Lx.lex_read (v := ?_) rfl (by first | exact Lx.w0 rfl | exact Lx.w1 rfl rfl rfl (by with_reducible rfl)) ?_ (fun K hK => ?_); rotate_left 1; (go_simp; done); go_simp; refine hK _ ?_; clear hK K)
              | (refine Lx.lex_read (v := ?_) rfl (by first | exact Lx.w0 rfl | exact Lx.w1 rfl rfl rfl (by with_reducible rfl)) ?_ (fun K hK => ?_); rotate_left 1; (go_simp; with_reducible rfl); go_simp; refine hK _ ?_; clear hK K)
              | (refine Lx.lex_eff rfl (by first | exact Lx.w0 rfl | exact Lx.w1 rfl rfl rfl (by with_reducible rfl)) (fun K hK => ?_); go_simp; (first | skip | skip); refine hK _ _ (trivial) ?_; clear hK K)
              | (refine Lx.lex_cases rfl rfl rfl (fun hgd K hK => ?_) (fun hgd K hK => ?_) <;> (try simp only [decide_eq_true_eq, decide_eq_false_iff_not] at hgd) <;> (first | (exfalso; omega) | (go_simp; refine hK _ ?_; clear hK K))))
            all_goals (refine Lx.lex_nil ?_)
            go_wp2_with fail
            go_roundw
            case rel => exact ⟨k + 1, hlt2, by go_num, by rw [HST.out, HRE.out]; exact HP.out.drew⟩
            case measure => simp [intOf]; omega
        · obtain rfl : k = m := by omega
          rw [List.take_of_length_le (by rw [HAL.out]; exact Nat.le_refl _), ← HNX.out] at HP
          clear hP
          go_wp2_with fail
          go_roundw
          case rel => exact ⟨t + 1, hlt, by go_num, HP.out⟩
          case measure => simp [intOf]; omega
    · obtain rfl : t = n := by omega
      clear hP
      go_wp2_with fail
      go_ret
      exact ⟨_, rfl, by have := HP.out.toRow 0 t 1 rfl (by rw [List.length_map, lgR_len]; omega) (by unfold maxLen; omega); rw [lgR_len]; exact this.row 0 rfl, HP.out.below⟩
end Go.Proofs.YtpaakgngoocjeaaDoor

/- The contract of the reference's Reduce. -/
namespace Go.Proofs.YtpaakgngoocjeaaDoor
open Go.RowKit

noncomputable def fN (S : List Nat) (b : Nat) (u : Nat) : Bool := decide (u = b) || !(reachM S u).testBit b
theorem needR_eq {n : Nat} (hn : n ≤ 512) (A : List (Int × Int)) (a b : Nat) : needR n A ((a : Int), (b : Int)) = (mem (rowOf n A a)).all (fN (graphOf n A) b) := by
  unfold needR
  dsimp only
  rw [← memI_rowOf hn]
  unfold memI
  rw [List.all_map]
  congr 1
  funext u
  unfold fN
  simp only [Function.comp_def, Int.toNat_natCast]
  have h1 : decide ((u : Int) = (b : Int)) = decide (u = b) := by by_cases h : u = b <;> simp [h]; omega
  rw [h1, show (List.map (fun m : Nat => (m : Int)) (mem (reachM (graphOf n A) u))) = zs (mem (reachM (graphOf n A) u)) from rfl, inF_mem (reachM_fit _ _)]
theorem all_take_succ {α : Type} {p : α → Bool} {L : List α} {k : Nat} {x : α} (h : L[k]? = some x) : (L.take (k + 1)).all p = ((L.take k).all p && p x) := by
  rw [List.take_add_one, h, List.all_append]; simp

set_option maxRecDepth 100000 in
set_option maxHeartbeats 1000000 in
theorem rreduce_any (n : Nat) (Al : Option Addr) (m c : Nat) (A : List (Int × Int)) (w : World) (hn : n ≤ 512) (hm : m ≤ 1000) (hl : RowS 2 arcV w w.heap.size Al m A) (hA : ∀ p ∈ A, (0 ≤ p.1 ∧ p.1 < (n : Int)) ∧ 0 ≤ p.2 ∧ p.2 < (n : Int)) :
    Calls Tryd.prog 38 #[.int .i64 n, .slice Al m c] w fun e w' => ∃ v, e = .returned v ∧ w'.ownsRow w.heap.size 31 2 v (redR n A).length (flat 2 arcV (redR n A)) ∧ Below w.heap.size w w' := by
  obtain ⟨i0, hi, hz0, hz1, hz2⟩ := info_parts arc_info
  have HNX : Hid (∀ (x : Int) W, Below w.heap.size w W → Calls Tryd.prog 23 #[.int .i64 n, .slice Al m c, .int .i64 x] W (NewInts (nextL A x n) W)) := Lib.hid (fun x W hb => rnext_any n Al m c x W A (by omega) (by omega) ((hl.below hb).up hb.size))
  have HRR : Hid (∀ (x : Nat) W, x < n → Below w.heap.size w W → Calls Tryd.prog 27 #[.int .i64 n, .slice Al m c, .int .i64 x] W (NewInts (zs (mem (reachM (graphOf n A) x))) W)) := Lib.hid (fun x W hx hb => rreach_any n Al m c A x W hn (by omega) ((hl.below hb).up hb.size) hx)
  have HL := Lib.hid hl
  have HA := Lib.hid hA
  have HAL : Hid (A.length = m) := Lib.hid hl.1
  have HNE := Lib.hid (needR_eq hn A)
  have HMI := Lib.hid (fun x => memI_rowOf hn A x)
  have HRN := Lib.hid (fun v u (h : u ∈ mem (rowOf n A v)) => ((rowOf_tb n A v u).1 (mem_tb h)).1)
  have HRD : Hid (redR n A = A.filter (needR n A)) := Lib.hid rfl
  rw [HRD.out]
  have HF0 : Hid ((A.take 0).filter (needR n A) = []) := Lib.hid rfl
  generalize needR n A = nr at *
  generalize graphOf n A = S at *
  have HP0 := Lib.hid ((Hp.start w).nil 31 2)
  clear hl hA HRD
  go_enter Tryd.func38, Tryd.ntmps38
  go_wp2_with fail
  go_loopw [5, 6] (fun vo i wr => ∃ k : Nat, k ≤ m ∧ i = .int .i64 k ∧ Hp w w wr [.row vo 31 2 ((A.take k).filter nr).length (flat 2 arcV ((A.take k).filter nr))] []) (fun _ i _ => m - (intOf i).toNat)
  case atStart => exact ⟨0, Nat.zero_le _, rfl, by rw [HF0.out]; exact HP0.out⟩
  case round =>
    clear HP0 HF0
    obtain ⟨k, hk, rfl, hP⟩ := hrel
    have HP := Lib.hid hP
    obtain ⟨A1, c1, rfl⟩ := hP.form 0 rfl
    by_cases hlt : k < m
    · have j0 : (k : Int) < (m : Int) := by omega
      obtain ⟨p, hp⟩ : ∃ p, A[k]? = some p := ⟨_, List.getElem?_eq_getElem (by rw [HAL.out]; exact hlt)⟩
      have HSU := Eqn.mk (filter_take_succ (p := nr) hp)
      have hol : ((A.take k).filter nr).length ≤ 1000 := by
        have := List.length_filter_le nr (A.take k)
        rw [List.length_take] at this; omega
      obtain ⟨⟨ha0, ha1⟩, hb0, hb1⟩ := HA.out p (List.mem_of_getElem? hp)
      obtain ⟨pa, pb⟩ := p
      dsimp only at ha0 ha1 hb0 hb1
      obtain ⟨a, rfl⟩ : ∃ a : Nat, pa = (a : Int) := ⟨pa.toNat, (Int.toNat_of_nonneg ha0).symm⟩
      obtain ⟨b, rfl⟩ : ∃ b : Nat, pb = (b : Int) := ⟨pb.toNat, (Int.toNat_of_nonneg hb0).symm⟩
      rw [HNE.out a b] at HSU
      obtain ⟨g, off, rfl, hgw, hcell⟩ := HL.out.2 (by omega)
      have HY : Hid (∀ W, Below w.heap.size w W → W.cell? ⟨g, off + k * 2, none⟩ = some (.int .i64 (a : Int)) ∧ W.cell? ⟨g, off + k * 2 + 1, none⟩ = some (.int .i64 (b : Int)) ∧ g < W.heap.size) := Lib.hid (fun W hW =>
        ⟨(hW.cell (p := ⟨g, off + k * 2, none⟩) hgw).trans (hcell k _ hp 0 (by decide)), (hW.cell (p := ⟨g, off + k * 2 + 1, none⟩) hgw).trans (hcell k _ hp 1 (by decide)), by have := hW.size; omega⟩)
      obtain ⟨y0, y1, y8⟩ := HY.out wr hP.below
      have HN1 := HNX.out (a : Int) wr hP.below
      rw [← HMI.out a] at HN1
      have HNM : Hid (memI (rowOf n A a) = zs (mem (rowOf n A a))) := Lib.hid rfl
      rw [HNM.out] at HN1
      replace HN1 := Lib.hid HN1
      have HNN := Lib.hid (HRN.out a)
      have hnl := mem_len (rowOf n A a)
      generalize mem (rowOf n A a) = nx at *
      generalize (A.take k).filter nr = O at *
      have HT0 : Hid ((nx.take 0).all (fN S b) = true) := Lib.hid rfl
      clear hP hp hcell HNM
      go_wp2_with fail
      refine HN1.out.mono ?_
      rintro e w1 ⟨v1, rfl, hown1, hb1'⟩
      have hP1 := HP.out.pushRow hb1' hown1
      rw [zs_len] at hP1
      have HP1 := Lib.hid hP1
      obtain ⟨A2, c2, rfl⟩ := hP1.form 1 rfl
      clear hb1' hown1 hP1 HN1 HP y0 y1 y8
      go_wp2_with fail
      go_loopw [7, 9] (fun f i wr => ∃ q : Nat, q ≤ nx.length ∧ i = .int .i64 q ∧ f = .bool ((nx.take q).all (fN S b)) ∧ Hp w w wr [.row (.slice A1 O.length c1) 31 2 O.length (flat 2 arcV O), .row (.slice A2 nx.length c2) 3 1 nx.length ((zs nx).map intV)] []) (fun _ i _ => nx.length - (intOf i).toNat)
      case atStart => exact ⟨0, Nat.zero_le _, rfl, by rw [HT0.out], HP1.out⟩
      case round =>
        clear HP1 HT0
        obtain ⟨q, hq, rfl, rfl, hP⟩ := hrel
        have HP := Lib.hid hP
        obtain ⟨y0, y1, y8⟩ := HY.out wr hP.below
        by_cases hlt2 : q < nx.length
        · have j2 : (q : Int) < (nx.length : Int) := by omega
          obtain ⟨y, hy⟩ : ∃ y, nx[q]? = some y := ⟨_, List.getElem?_eq_getElem hlt2⟩
          obtain ⟨g2, d2, e2, z0, z1, z2⟩ := hP.at 1 q rfl (show ((zs nx).map intV)[q]? = some (.int .i64 (y : Int)) by unfold zs; rw [List.getElem?_map, List.getElem?_map, hy]; rfl)
          injection e2 with e2 _ e2c
          subst e2 e2c
          have HTS := Eqn.mk (all_take_succ (p := fN S b) hy)
          have hyn := HNN.out y (List.mem_of_getElem? hy)
          generalize (nx.take q).all (fN S b) = t0 at *
          have HFN : Eqn (fN S b y) (decide (y = b) || !(reachM S y).testBit b) := rfl
          by_cases hyb : y = b
          · have HT2 : Eqn ((nx.take (q + 1)).all (fN S b)) t0 := by rw [Eqn, HTS.out, HFN.out, decide_eq_true hyb]; simp
            subst hyb
            clear hP hy HTS HFN
            go_wp2_with fail
            refine Lx.region (C := fun W => W.cell? ⟨g, off + k * 2 + 1, none⟩ = some (.int .i64 (y : Int))) (hs := [8, 22]) (by kernel_rfl) (by kernel_rfl) y1 ?_
            repeat' (first
              | (refine Lx.lex_no (Lx.n1 rfl rfl rfl (by with_reducible rfl)) (fun K hK => ?_); go_simp; refine hK _ ?_; clear hK K)
              | (refine Lx.lex_no (Lx.n0 rfl rfl rfl (by with_reducible rfl)) (fun K hK => ?_); go_simp; refine hK _ ?_; clear hK K)
              | (refine Lx.lex_no (Lx.n2 rfl rfl rfl) (fun K hK => ?_); go_simp; refine hK _ ?_; clear hK K)
              | (refine Lx.lex_pure (v := ?_) rfl (by first | exact Lx.w0 rfl | exact Lx.w1 rfl rfl rfl (by with_reducible rfl)) ?_ (fun K hK => ?_); rotate_left 1; (intro w' hCw; (try dsimp only at hCw); go_simp; done); go_simp; refine hK _ ?_; clear hK K)
              | (refine Lx.lex_pure (v := ?_) rfl (by first | exact Lx.w0 rfl | exact Lx.w1 rfl rfl rfl (by with_reducible rfl)) ?_ (fun K hK => ?_); rotate_left 1; (intro w' hCw; (try dsimp only at hCw); go_simp; with_reducible rfl); go_simp; refine hK _ ?_; clear hK K)
              | (refine Lx.lex_read (v := ?_) rfl (by first | exact Lx.w0 rfl | exact Lx.w1 rfl rfl rfl (by with_reducible rfl)) ?_ (fun K hK => ?_); rotate_left 1; (go_simp; done); go_simp; refine hK _ ?_; clear hK K)
              | (refine Lx.lex_read (v := ?_) rfl (by first | exact Lx.w0 rfl | exact Lx.w1 rfl rfl rfl (by with_reducible rfl)) ?_ (fun K hK => ?_); rotate_left 1; (go_simp; with_reducible rfl); go_simp; refine hK _ ?_; clear hK K)
              | (refine Lx.lex_eff rfl (by first | exact Lx.w0 rfl | exact Lx.w1 rfl rfl rfl (by with_reducible rfl)) (fun K hK => ?_); go_simp; (first | skip | skip); refine hK _ _ (by exact y1) ?_; clear hK K)
              | (refine Lx.lex_cases rfl rfl rfl (fun hgd K hK => ?_) (fun hgd K hK => ?_) <;> (try simp only [decide_eq_true_eq, decide_eq_false_iff_not] at hgd) <;> (first | (exfalso; omega) | (go_simp; refine hK _ ?_; clear hK K))))
            all_goals (refine Lx.lex_nil ?_)
            go_wp2_with fail
            go_roundw
            case rel => exact ⟨q + 1, hlt2, by go_num, by rw [HT2.out], HP.out.drew⟩
            case measure => simp [intOf]; omega
          · have hyb' : ¬ (y : Int) = (b : Int) := by omega
            have hyb2 : ((y : Int) == (b : Int)) = false := by simpa using hyb'
            have hyb3 : ((y : Int) != (b : Int)) = true := by simpa using hyb'
            have HT2 : Eqn ((nx.take (q + 1)).all (fN S b)) (t0 && !(reachM S y).testBit b) := by rw [Eqn, HTS.out, HFN.out, decide_eq_false hyb]; simp
            have HR1 := Lib.hid (HRR.out y wr.drew hyn hP.below.drew)
            have HIF := Lib.hid (inF_mem (x := b) (reachM_fit S y))
            have hml := mem_len (reachM S y)
            generalize mem (reachM S y) = mm at *
            generalize (reachM S y).testBit b = tb at *
            clear hP hy HTS HFN
            go_wp2_with fail
            refine Lx.region (C := fun W => W.cell? ⟨g, off + k * 2 + 1, none⟩ = some (.int .i64 (b : Int))) (hs := [8, 22]) (by kernel_rfl) (by kernel_rfl) y1 ?_
            repeat' (first
              | (refine Lx.lex_no (Lx.n1 rfl rfl rfl (by with_reducible rfl)) (fun K hK => ?_); go_simp; refine hK _ ?_; clear hK K)
              | (refine Lx.lex_no (Lx.n0 rfl rfl rfl (by with_reducible rfl)) (fun K hK => ?_); go_simp; refine hK _ ?_; clear hK K)
              | (refine Lx.lex_no (Lx.n2 rfl rfl rfl) (fun K hK => ?_); go_simp; refine hK _ ?_; clear hK K)
              | (refine Lx.lex_pure (v := ?_) rfl (by first | exact Lx.w0 rfl | exact Lx.w1 rfl rfl rfl (by with_reducible rfl)) ?_ (fun K hK => ?_); rotate_left 1; (intro w' hCw; (try dsimp only at hCw); go_simp; done); go_simp; refine hK _ ?_; clear hK K)
              | (refine Lx.lex_pure (v := ?_) rfl (by first | exact Lx.w0 rfl | exact Lx.w1 rfl rfl rfl (by with_reducible rfl)) ?_ (fun K hK => ?_); rotate_left 1; (intro w' hCw; (try dsimp only at hCw); go_simp; with_reducible rfl); go_simp; refine hK _ ?_; clear hK K)
              | (refine Lx.lex_read (v := ?_) rfl (by first | exact Lx.w0 rfl | exact Lx.w1 rfl rfl rfl (by with_reducible rfl)) ?_ (fun K hK => ?_); rotate_left 1; (go_simp; done); go_simp; refine hK _ ?_; clear hK K)
              | (refine Lx.lex_read (v := ?_) rfl (by first | exact Lx.w0 rfl | exact Lx.w1 rfl rfl rfl (by with_reducible rfl)) ?_ (fun K hK => ?_); rotate_left 1; (go_simp; with_reducible rfl); go_simp; refine hK _ ?_; clear hK K)
              | (refine Lx.lex_eff rfl (by first | exact Lx.w0 rfl | exact Lx.w1 rfl rfl rfl (by with_reducible rfl)) (fun K hK => ?_); go_simp; (first | (go_at_call 27; refine HR1.out.mono ?_; rintro e w3 ⟨v3, rfl, hown3, hb3⟩; rw [zs_len] at hown3; obtain ⟨A3, c3, rfl, hr3⟩ := row1_of_own hown3; have y1' := (hb3.cell (p := ⟨g, off + k * 2 + 1, none⟩) (by simpa using y8)).trans y1; have HIN := rin_any A3 mm.length c3 (b : Int) w3 _ (zs mm) (by omega) hr3; rw [HIF.out] at HIN; replace HIN := Lib.hid HIN; have HP3 := Lib.hid (HP.out.drew.keep hb3)) | (go_at_call 48; refine HIN.out.mono ?_; rintro e w4 ⟨rfl, rfl⟩) | skip); refine hK _ _ (by first | exact y1' | exact y1) ?_; clear hK K)
              | (refine Lx.lex_cases rfl rfl rfl (fun hgd K hK => ?_) (fun hgd K hK => ?_) <;> (try simp only [decide_eq_true_eq, decide_eq_false_iff_not] at hgd) <;> (first | (exfalso; omega) | (go_simp; refine hK _ ?_; clear hK K))))
            all_goals (refine Lx.lex_nil ?_)
            clear y0 y1 y1' y8 z0 z1 z2 hown3 hb3
            cases tb with
            | true =>
              have HT3 : Eqn ((nx.take (q + 1)).all (fN S b)) false := by rw [Eqn, HT2.out]; simp
              clear HT2
              go_wp2_with fail
              go_roundw
              case rel => exact ⟨q + 1, hlt2, by go_num, by rw [HT3.out], HP3.out⟩
              case measure => simp [intOf]; omega
            | false =>
              have HT3 : Eqn ((nx.take (q + 1)).all (fN S b)) t0 := by rw [Eqn, HT2.out]; simp
              clear HT2
              go_wp2_with fail
              go_roundw
              case rel => exact ⟨q + 1, hlt2, by go_num, by rw [HT3.out], HP3.out⟩
              case measure => simp [intOf]; omega
        · obtain rfl : q = nx.length := by omega
          rw [List.take_length] at *
          have HP2 : Hid (Hp w w wr [.row (.slice A1 O.length c1) 31 2 O.length (flat 2 arcV O)] []) := Lib.hid (HP.out.sub (List.Sublist.cons_cons _ (List.nil_sublist _)))
          clear hP HP
          generalize nx.all (fN S b) = tv at *
          cases tv with
          | false =>
            have HSU2 : Eqn ((A.take (k + 1)).filter nr) O := by rw [Eqn, HSU.out]; simp
            clear HSU
            go_wp2_with fail
            go_roundw
            case rel => exact ⟨k + 1, hlt, by go_num, by rw [HSU2.out]; exact HP2.out⟩
            case measure => simp [intOf]; omega
          | true =>
            have HSU2 : Eqn ((A.take (k + 1)).filter nr) (O ++ [((a : Int), (b : Int))]) := HSU
            clear HSU
            go_wp2_with (at_builtin; refine wpList_append_own_at _ rfl _ _ 22 rfl w.heap.size 31 i0 (.agg #[.int .i64 0, .int .i64 0]) 2 16 Tryd.underlying22 hi hz0 hz1 hz2 rfl (by decide) _ _ _ rfl ((HP2.out.row 0 rfl).alloc _) ⟨wr.heap.size, 0, none⟩ 1 1 [.int .i64 (a : Int), .int .i64 (b : Int)] rfl rfl (cells_newR wr [.int .i64 (a : Int), .int .i64 (b : Int)] 31) (by simp [Value.oneCell']) (by unfold maxLen; omega) (by omega) (by have := HP2.out.below.size; simp; omega) ?_; intro v2 w4 hown hgrow _ hat; have HP4 := Lib.hid ((HP2.out.alloc0 _).grow 0 rfl hgrow hown hat); obtain ⟨A5, cp5, rfl⟩ := HP4.out.form 0 rfl; clear hown hgrow hat)
            go_roundw
            case rel => exact ⟨k + 1, hlt, by go_num, by rw [HSU2.out, ← flat_arc, List.length_append]; exact HP4.out⟩
            case measure => simp [intOf]; omega
    · obtain rfl : k = m := by omega
      rw [List.take_of_length_le (by rw [HAL.out]; exact Nat.le_refl _)] at HP ⊢
      clear hP
      go_wp2_with fail
      go_ret
      exact ⟨_, rfl, HP.out.row 0 rfl, HP.out.below⟩
end Go.Proofs.YtpaakgngoocjeaaDoor

namespace Go.Proofs.YtpaakgngoocjeaaDoor
theorem all09 : True := trivial
end Go.Proofs.YtpaakgngoocjeaaDoor
