/- The reference of layer 18: byLoad, Removes. -/
import Derived.Test.YtdpbbhbegehcjaaGreatDoorHol23
set_option maxRecDepth 100000
set_option maxHeartbeats 2000000
namespace Go.Proofs.YtdpbbhbegehcjaaGreatDoor
open Go.RowKit Go.Shelf
theorem bypair_any (s : PrbS) (A : Option Addr) (n cp : Nat) (st c : Int) (w : World) (ds : List Dom) (r : Rul) (hr : VPr ds r) (h : PrbAt w w.heap.size s ds r) (D : List Dom) (hn : n ≤ 9223372036854775807) (hD : DomsAt w w.heap.size A n D) (hd : ∀ d ∈ D, d.len ≤ 9223372036854775807) (hc : 2 ≤ c ∧ c ≤ 51) :
  Calls Tryz.prog 150 #[s.val, .slice A n cp, .int .i64 st, .int .i64 c] w (RetPost (.bool (byPairF r.pairs (D.map Dom.say) st c)) w.heap.size w) := by
 obtain ⟨p0, hp0⟩ : ∃ q, q = w.heap.size := ⟨_, rfl⟩
 obtain ⟨V0, hV0⟩ : ∃ V, V = w.alloc (.cells #[.slice s.ad s.nd s.cd, .slice s.rs.a0 s.rs.n0 s.rs.c0, .slice s.rs.a1 s.rs.n1 s.rs.c1, .slice s.rs.a2 s.rs.n2 s.rs.c2] 29) := ⟨_, rfl⟩
 have hP0 : Hp w w V0 [.blk p0 29 [.slice s.ad s.nd s.cd, .slice s.rs.a0 s.rs.n0 s.rs.c0, .slice s.rs.a1 s.rs.n1 s.rs.c1, .slice s.rs.a2 s.rs.n2 s.rs.c2]] [] := by
  have h := (Hp.start w).alloc [.slice s.ad s.nd s.cd, .slice s.rs.a0 s.rs.n0 s.rs.c0, .slice s.rs.a1 s.rs.n1 s.rs.c1, .slice s.rs.a2 s.rs.n2 s.rs.c2] 29
  rw [hV0, hp0]; exact h
 have HO := Lib.hid (fun (u v : Int) (W : World) (hb : Below w.heap.size w W) => onlyb_any A n cp u v W D hn (hD.keep hb) hd)
 have HXS := Lib.hid (fun (W : World) (hb : Below w.heap.size w W) => h.2.1.keep hb)
 have Hlen := Eqn.mk h.2.1.1
 have HVP := Lib.hid hr.prs
 have hn0 : s.rs.n0 ≤ 4096 := by have h1 := hr.sts.2.2.2.1; have h2 := h.2.1.1; omega
 obtain ⟨ans, hans⟩ : ∃ a, a = byPairF r.pairs (D.map Dom.say) st c := ⟨_, rfl⟩
 rw [← hans]
 have HF := Eqn.mk hans
 have HP0 := Lib.hid hP0
 unfold PrbS.val
 generalize D.map Dom.say = DS at *
 clear hP0 h hr hD hd hans
 go_enter Tryz.func150, Tryz.ntmps150
 go_upto_region 1 with fail
 rw [← hV0, ← hp0]
 clear hV0 hp0
 go_wp2_with fail
 go_loopw [9] (fun i wr => ∃ k : Nat, k ≤ s.rs.n0 ∧ i = .int .i64 k ∧ (r.pairs.take k).any (bpOne DS st c) = false ∧ Hp w w wr [.blk p0 29 [.slice s.ad s.nd s.cd, .slice s.rs.a0 s.rs.n0 s.rs.c0, .slice s.rs.a1 s.rs.n1 s.rs.c1, .slice s.rs.a2 s.rs.n2 s.rs.c2]] []) (fun i _ => s.rs.n0 - (intOf i).toNat)
 case atStart => exact ⟨0, Nat.zero_le _, rfl, rfl, HP0.out⟩
 case round =>
  clear HP0
  obtain ⟨k, hk, rfl, hany, hP⟩ := hrel
  obtain ⟨wo, rfl⟩ : ∃ wo : World, wo = wr := ⟨_, rfl⟩
  have HP := Lib.hid hP
  have HAN := Lib.hid hany
  have q1 := hP.c 0 1 rfl rfl
  have ql := hP.lt 0 rfl
  clear hany
  by_cases hlt : k < s.rs.n0
  ·have j0 : (k : Int) < (s.rs.n0 : Int) := by omega
   obtain ⟨x, hx⟩ : ∃ x, r.pairs[k]? = some x := ⟨_, List.getElem?_eq_getElem (by rw [Hlen.out]; exact hlt)⟩
   have hxv := HVP.out x (List.mem_of_getElem? hx)
   obtain ⟨b, off, e2, hbl, hcl⟩ := (HXS.out wo hP.below).2 (by omega)
   rw [e2] at q1
   have HYES : Hid (bpOne DS st c x = true → ans = true) := Lib.hid (fun h => by rw [HF.out]; exact any_yes hx h)
   have HNO : Hid (bpOne DS st c x = false → (r.pairs.take (k + 1)).any (bpOne DS st c) = false) := Lib.hid (fun h => any_take hx HAN.out h)
   obtain ⟨x0, x1, x2, x3, x4⟩ := x
   dsimp only at hxv
   have e0 : wo.cell? ⟨b, off + k * 5, none⟩ = some (.int .i64 x0) := hcl k _ hx 0 (by decide)
   have e1 : wo.cell? ⟨b, off + k * 5 + 1, none⟩ = some (.int .i64 x1) := hcl k _ hx 1 (by decide)
   have e3 : wo.cell? ⟨b, off + k * 5 + 2, none⟩ = some (.int .i64 x2) := hcl k _ hx 2 (by decide)
   have e4 : wo.cell? ⟨b, off + k * 5 + 3, none⟩ = some (.int .i64 x3) := hcl k _ hx 3 (by decide)
   have e5 : wo.cell? ⟨b, off + k * 5 + 4, none⟩ = some (.int .i64 x4) := hcl k _ hx 4 (by decide)
   obtain ⟨V1, hV1⟩ : ∃ V1, V1 = wo.alloc (.cells #[.int .i64 x0, .int .i64 x1, .int .i64 x2, .int .i64 x3, .int .i64 x4] 84) := ⟨_, rfl⟩
   obtain ⟨p1, hp1⟩ : ∃ q, q = wo.heap.size := ⟨_, rfl⟩
   have hP1 := hP.alloc [.int .i64 x0, .int .i64 x1, .int .i64 x2, .int .i64 x3, .int .i64 x4] 84
   rw [show ([.int .i64 x0, .int .i64 x1, .int .i64 x2, .int .i64 x3, .int .i64 x4] : List Value).toArray = #[.int .i64 x0, .int .i64 x1, .int .i64 x2, .int .i64 x3, .int .i64 x4] from rfl, ← hV1, ← hp1] at hP1
   have HP1 := Lib.hid hP1
   have y0 := hP1.c 1 0 rfl rfl
   have y1 := hP1.c 1 1 rfl rfl
   have y2 := hP1.c 1 2 rfl rfl
   have y3 := hP1.c 1 3 rfl rfl
   have y4 := hP1.c 1 4 rfl rfl
   have yl := hP1.lt 1 rfl
   have HB : Eqn (bpOne DS st c ⟨x0, x1, x2, x3, x4⟩) ((decide (x0 = st) && (inR x3 c x4 && onlyB DS x1 (c + x2))) || (decide (x1 = st) && (inR x3 (c - x2) x4 && onlyB DS x0 (c - x2)))) := rfl
   have HI1 := Lib.hid (within_any x3 c x4 V1)
   have HI2 := Lib.hid (within_any x3 (c - x2) x4 V1)
   have HO1 := Lib.hid (HO.out x1 (c + x2) V1 hP1.below)
   have HO2 := Lib.hid (HO.out x0 (c - x2) V1 hP1.below)
   have hw1 : IntKind.i64.wrap (c + x2) = c + x2 := by rw [IntKind.wrap_i64]; omega
   have hw2 : IntKind.i64.wrap (c - x2) = c - x2 := by rw [IntKind.wrap_i64]; omega
   generalize inR x3 c x4 = i1 at *
   generalize inR x3 (c - x2) x4 = i2 at *
   generalize onlyB DS x1 (c + x2) = o1 at *
   generalize onlyB DS x0 (c - x2) = o2 at *
   generalize bpOne DS st c ⟨x0, x1, x2, x3, x4⟩ = bp at *
   clear hcl hx hP hP1 HO HXS HF HAN
   go_upto_region 5 with fail
   rw [← hV1, ← hp1]
   clear hV1 hp1 e0 e1 e3 e4 e5 e2 q1 ql
   by_cases h1 : x0 = st
   ·have d1 : (x0 == st) = true := by simpa using h1
    rw [decide_eq_true h1, Bool.true_and] at HB
    clear h1
    cases i1 with
    | true =>
     cases o1 with
     | true =>
      have HV := Lib.hid (HYES.out (HB.out.trans rfl))
      go_wp2_with fail
      refine HI1.out.mono ?_
      rintro e W6 ⟨rfl, rfl⟩
      go_wp2_with fail
      refine HO1.out.mono ?_
      rintro e W6 ⟨rfl, rfl⟩
      go_wp2_with fail
      go_ret
      exact ⟨ret_bool HV.out.symm, HP1.out.below⟩
     | false =>
      rw [Bool.and_false, Bool.false_or] at HB
      go_wp2_with fail
      refine HI1.out.mono ?_
      rintro e W6 ⟨rfl, rfl⟩
      go_wp2_with fail
      refine HO1.out.mono ?_
      rintro e W6 ⟨rfl, rfl⟩
      go_upto_region 7 with fail
      by_cases h2 : x1 = st
      ·have d2 : (x1 == st) = true := by simpa using h2
       rw [decide_eq_true h2, Bool.true_and] at HB
       clear h2
       cases i2 with
       | true =>
        cases o2 with
        | true =>
         have HV := Lib.hid (HYES.out (HB.out.trans rfl))
         go_wp2_with fail
         refine HI2.out.mono ?_
         rintro e W6 ⟨rfl, rfl⟩
         go_wp2_with fail
         refine HO2.out.mono ?_
         rintro e W6 ⟨rfl, rfl⟩
         go_wp2_with fail
         go_ret
         exact ⟨ret_bool HV.out.symm, HP1.out.below⟩
        | false =>
         have HN := Lib.hid (HNO.out (HB.out.trans rfl))
         go_wp2_with fail
         refine HI2.out.mono ?_
         rintro e W6 ⟨rfl, rfl⟩
         go_wp2_with fail
         refine HO2.out.mono ?_
         rintro e W6 ⟨rfl, rfl⟩
         go_wp2_with fail
         go_roundw
         case rel => exact ⟨k + 1, hlt, by go_num, HN.out, HP1.out.sub (List.Sublist.cons_cons _ (List.nil_sublist _))⟩
         case measure => simp [intOf]; omega
       | false =>
        have HN := Lib.hid (HNO.out (HB.out.trans rfl))
        go_wp2_with fail
        refine HI2.out.mono ?_
        rintro e W6 ⟨rfl, rfl⟩
        go_wp2_with fail
        go_roundw
        case rel => exact ⟨k + 1, hlt, by go_num, HN.out, HP1.out.sub (List.Sublist.cons_cons _ (List.nil_sublist _))⟩
        case measure => simp [intOf]; omega
      ·have d2 : (x1 == st) = false := by simpa using h2
       rw [decide_eq_false h2, Bool.false_and] at HB
       have HN := Lib.hid (HNO.out (HB.out.trans rfl))
       clear h2
       go_wp2_with fail
       go_roundw
       case rel => exact ⟨k + 1, hlt, by go_num, HN.out, HP1.out.sub (List.Sublist.cons_cons _ (List.nil_sublist _))⟩
       case measure => simp [intOf]; omega
    | false =>
     rw [Bool.false_and, Bool.false_or] at HB
     go_wp2_with fail
     refine HI1.out.mono ?_
     rintro e W6 ⟨rfl, rfl⟩
     go_upto_region 7 with fail
     by_cases h2 : x1 = st
     ·have d2 : (x1 == st) = true := by simpa using h2
      rw [decide_eq_true h2, Bool.true_and] at HB
      clear h2
      cases i2 with
      | true =>
       cases o2 with
       | true =>
        have HV := Lib.hid (HYES.out (HB.out.trans rfl))
        go_wp2_with fail
        refine HI2.out.mono ?_
        rintro e W6 ⟨rfl, rfl⟩
        go_wp2_with fail
        refine HO2.out.mono ?_
        rintro e W6 ⟨rfl, rfl⟩
        go_wp2_with fail
        go_ret
        exact ⟨ret_bool HV.out.symm, HP1.out.below⟩
       | false =>
        have HN := Lib.hid (HNO.out (HB.out.trans rfl))
        go_wp2_with fail
        refine HI2.out.mono ?_
        rintro e W6 ⟨rfl, rfl⟩
        go_wp2_with fail
        refine HO2.out.mono ?_
        rintro e W6 ⟨rfl, rfl⟩
        go_wp2_with fail
        go_roundw
        case rel => exact ⟨k + 1, hlt, by go_num, HN.out, HP1.out.sub (List.Sublist.cons_cons _ (List.nil_sublist _))⟩
        case measure => simp [intOf]; omega
      | false =>
       have HN := Lib.hid (HNO.out (HB.out.trans rfl))
       go_wp2_with fail
       refine HI2.out.mono ?_
       rintro e W6 ⟨rfl, rfl⟩
       go_wp2_with fail
       go_roundw
       case rel => exact ⟨k + 1, hlt, by go_num, HN.out, HP1.out.sub (List.Sublist.cons_cons _ (List.nil_sublist _))⟩
       case measure => simp [intOf]; omega
     ·have d2 : (x1 == st) = false := by simpa using h2
      rw [decide_eq_false h2, Bool.false_and] at HB
      have HN := Lib.hid (HNO.out (HB.out.trans rfl))
      clear h2
      go_wp2_with fail
      go_roundw
      case rel => exact ⟨k + 1, hlt, by go_num, HN.out, HP1.out.sub (List.Sublist.cons_cons _ (List.nil_sublist _))⟩
      case measure => simp [intOf]; omega
   ·have d1 : (x0 == st) = false := by simpa using h1
    rw [decide_eq_false h1, Bool.false_and, Bool.false_or] at HB
    clear h1
    go_upto_region 7 with fail
    by_cases h2 : x1 = st
    ·have d2 : (x1 == st) = true := by simpa using h2
     rw [decide_eq_true h2, Bool.true_and] at HB
     clear h2
     cases i2 with
     | true =>
      cases o2 with
      | true =>
       have HV := Lib.hid (HYES.out (HB.out.trans rfl))
       go_wp2_with fail
       refine HI2.out.mono ?_
       rintro e W6 ⟨rfl, rfl⟩
       go_wp2_with fail
       refine HO2.out.mono ?_
       rintro e W6 ⟨rfl, rfl⟩
       go_wp2_with fail
       go_ret
       exact ⟨ret_bool HV.out.symm, HP1.out.below⟩
      | false =>
       have HN := Lib.hid (HNO.out (HB.out.trans rfl))
       go_wp2_with fail
       refine HI2.out.mono ?_
       rintro e W6 ⟨rfl, rfl⟩
       go_wp2_with fail
       refine HO2.out.mono ?_
       rintro e W6 ⟨rfl, rfl⟩
       go_wp2_with fail
       go_roundw
       case rel => exact ⟨k + 1, hlt, by go_num, HN.out, HP1.out.sub (List.Sublist.cons_cons _ (List.nil_sublist _))⟩
       case measure => simp [intOf]; omega
     | false =>
      have HN := Lib.hid (HNO.out (HB.out.trans rfl))
      go_wp2_with fail
      refine HI2.out.mono ?_
      rintro e W6 ⟨rfl, rfl⟩
      go_wp2_with fail
      go_roundw
      case rel => exact ⟨k + 1, hlt, by go_num, HN.out, HP1.out.sub (List.Sublist.cons_cons _ (List.nil_sublist _))⟩
      case measure => simp [intOf]; omega
    ·have d2 : (x1 == st) = false := by simpa using h2
     rw [decide_eq_false h2, Bool.false_and] at HB
     have HN := Lib.hid (HNO.out (HB.out.trans rfl))
     clear h2
     go_wp2_with fail
     go_roundw
     case rel => exact ⟨k + 1, hlt, by go_num, HN.out, HP1.out.sub (List.Sublist.cons_cons _ (List.nil_sublist _))⟩
     case measure => simp [intOf]; omega
  ·obtain rfl : k = s.rs.n0 := by omega
   have j0 : ¬ (s.rs.n0 : Int) < (s.rs.n0 : Int) := by omega
   have HV : Hid (ans = false) := Lib.hid (by rw [HF.out]; have h := HAN.out; rwa [List.take_of_length_le (by rw [Hlen.out]; exact Nat.le_refl _)] at h)
   clear HAN hP
   go_wp2_with fail
   go_ret
   exact ⟨ret_bool HV.out.symm, HP.out.below⟩
theorem rbyload_any (s : PrbS) (A : Option Addr) (n cp : Nat) (st c : Int) (w : World) (ds : List Dom) (r : Rul) (hr : VPr ds r) (h : PrbAt w w.heap.size s ds r) (D : List Dom) (hn : n ≤ 9223372036854775807) (hD : DomsAt w w.heap.size A n D) (hd : ∀ d ∈ D, d.len ≤ 9223372036854775807) :
  Calls Tryz.prog 153 #[s.val, .slice A n cp, .int .i64 st, .int .i64 c] w (RetPost (.bool (byLoadF r (D.map Dom.say) st c)) w.heap.size w) := by
 obtain ⟨p0, hp0⟩ : ∃ q, q = w.heap.size := ⟨_, rfl⟩
 obtain ⟨V0, hV0⟩ : ∃ V, V = w.alloc (.cells #[.slice s.ad s.nd s.cd, .slice s.rs.a0 s.rs.n0 s.rs.c0, .slice s.rs.a1 s.rs.n1 s.rs.c1, .slice s.rs.a2 s.rs.n2 s.rs.c2] 29) := ⟨_, rfl⟩
 have hP0 : Hp w w V0 [.blk p0 29 [.slice s.ad s.nd s.cd, .slice s.rs.a0 s.rs.n0 s.rs.c0, .slice s.rs.a1 s.rs.n1 s.rs.c1, .slice s.rs.a2 s.rs.n2 s.rs.c2]] [] := by
  have h := (Hp.start w).alloc [.slice s.ad s.nd s.cd, .slice s.rs.a0 s.rs.n0 s.rs.c0, .slice s.rs.a1 s.rs.n1 s.rs.c1, .slice s.rs.a2 s.rs.n2 s.rs.c2] 29
  rw [hV0, hp0]; exact h
 have HO := Lib.hid (fun (u v : Int) (W : World) (hb : Below w.heap.size w W) => onlyb_any A n cp u v W D hn (hD.keep hb) hd)
 have hsu := fun (u v z : Int) (W : World) (hb : Below w.heap.size w W) => rsum18_any s A n cp u v z W ds r hr ⟨h.1.keep hb, h.2.keep hb⟩ D hn (hD.keep hb) hd
 have hov := fun (u v z : Int) (W : World) (hb : Below w.heap.size w W) => rover18_any s u v z W ds r hr ⟨h.1.keep hb, h.2.keep hb⟩
 unfold PrbS.val at hsu hov
 have HSUM := Lib.hid hsu
 have HOVR := Lib.hid hov
 have HXS := Lib.hid (fun (W : World) (hb : Below w.heap.size w W) => h.2.2.1.keep hb)
 have Hlen := Eqn.mk h.2.2.1.1
 have hn0 : s.rs.n1 ≤ 1024 := by have h1 := hr.sts.2.2.2.2.1; have h2 := h.2.2.1.1; omega
 obtain ⟨ans, hans⟩ : ∃ a, a = byLoadF r (D.map Dom.say) st c := ⟨_, rfl⟩
 rw [← hans]
 unfold byLoadF at hans
 have HF := Eqn.mk hans
 have HP0 := Lib.hid hP0
 unfold PrbS.val
 generalize D.map Dom.say = DS at *
 clear hP0 h hr hD hd hans hsu hov
 go_enter Tryz.func153, Tryz.ntmps153
 go_upto_region 1 with fail
 rw [← hV0, ← hp0]
 clear hV0 hp0
 go_wp2_with fail
 go_loopw [9] (fun i wr => ∃ k : Nat, k ≤ s.rs.n1 ∧ i = .int .i64 k ∧ (r.loads.take k).any (blOne r DS st c) = false ∧ Hp w w wr [.blk p0 29 [.slice s.ad s.nd s.cd, .slice s.rs.a0 s.rs.n0 s.rs.c0, .slice s.rs.a1 s.rs.n1 s.rs.c1, .slice s.rs.a2 s.rs.n2 s.rs.c2]] []) (fun i _ => s.rs.n1 - (intOf i).toNat)
 case atStart => exact ⟨0, Nat.zero_le _, rfl, rfl, HP0.out⟩
 case round =>
  clear HP0
  obtain ⟨k, hk, rfl, hany, hP⟩ := hrel
  obtain ⟨wo, rfl⟩ : ∃ wo : World, wo = wr := ⟨_, rfl⟩
  have HP := Lib.hid hP
  have HAN := Lib.hid hany
  have q1 := hP.c 0 2 rfl rfl
  have ql := hP.lt 0 rfl
  clear hany
  by_cases hlt : k < s.rs.n1
  ·have j0 : (k : Int) < (s.rs.n1 : Int) := by omega
   obtain ⟨x, hx⟩ : ∃ x, r.loads[k]? = some x := ⟨_, List.getElem?_eq_getElem (by rw [Hlen.out]; exact hlt)⟩
   obtain ⟨b, off, eA, hbl, hcl⟩ := (HXS.out wo hP.below).2 (by omega)
   rw [eA] at q1
   have HYES : Hid (blOne r DS st c x = true → ans = true) := Lib.hid (fun h => by rw [HF.out]; exact any_yes hx h)
   have HNO : Hid (blOne r DS st c x = false → (r.loads.take (k + 1)).any (blOne r DS st c) = false) := Lib.hid (fun h => any_take hx HAN.out h)
   obtain ⟨x0, x1, x2, x3, x4⟩ := x
   have e0 : wo.cell? ⟨b, off + k * 5, none⟩ = some (.int .i64 x0) := hcl k _ hx 0 (by decide)
   have e1 : wo.cell? ⟨b, off + k * 5 + 1, none⟩ = some (.int .i64 x1) := hcl k _ hx 1 (by decide)
   have e2 : wo.cell? ⟨b, off + k * 5 + 2, none⟩ = some (.int .i64 x2) := hcl k _ hx 2 (by decide)
   have e3 : wo.cell? ⟨b, off + k * 5 + 3, none⟩ = some (.int .i64 x3) := hcl k _ hx 3 (by decide)
   have e4 : wo.cell? ⟨b, off + k * 5 + 4, none⟩ = some (.int .i64 x4) := hcl k _ hx 4 (by decide)
   obtain ⟨V1, hV1⟩ : ∃ V1, V1 = wo.alloc (.cells #[.int .i64 x0, .int .i64 x1, .int .i64 x2, .int .i64 x3, .int .i64 x4] 86) := ⟨_, rfl⟩
   obtain ⟨p1, hp1⟩ : ∃ q, q = wo.heap.size := ⟨_, rfl⟩
   have hP1 := hP.alloc [.int .i64 x0, .int .i64 x1, .int .i64 x2, .int .i64 x3, .int .i64 x4] 86
   rw [show ([.int .i64 x0, .int .i64 x1, .int .i64 x2, .int .i64 x3, .int .i64 x4] : List Value).toArray = #[.int .i64 x0, .int .i64 x1, .int .i64 x2, .int .i64 x3, .int .i64 x4] from rfl, ← hV1, ← hp1] at hP1
   have HP1 := Lib.hid hP1
   have y0 := hP1.c 1 0 rfl rfl
   have y1 := hP1.c 1 1 rfl rfl
   have y2 := hP1.c 1 2 rfl rfl
   have y3 := hP1.c 1 3 rfl rfl
   have y4 := hP1.c 1 4 rfl rfl
   have yl := hP1.lt 1 rfl
   have HB : Eqn (blOne r DS st c ⟨x0, x1, x2, x3, x4⟩) (decide (x1 = st) && (inR x3 c x4 && (onlyB DS x0 c && overF r.caps x0 c (sumF r.loads DS x0 c st)))) := rfl
   have HDR := Lib.hid ((Below.refl V1.heap.size V1).drew)
   have HC := Lib.hid (fun (X : World) (hb : Below V1.heap.size V1 X) => (by have hk := HP1.out.keep hb; exact ⟨hk.c 0 0 rfl rfl, hk.c 0 1 rfl rfl, hk.c 0 2 rfl rfl, hk.c 0 3 rfl rfl, hk.c 1 0 rfl rfl, hk.c 1 1 rfl rfl, hk.c 1 2 rfl rfl, hk.c 1 3 rfl rfl, hk.c 1 4 rfl rfl⟩ : X.cell? ⟨p0, 0, none⟩ = some (.slice s.ad s.nd s.cd) ∧ X.cell? ⟨p0, 1, none⟩ = some (.slice s.rs.a0 s.rs.n0 s.rs.c0) ∧ X.cell? ⟨p0, 2, none⟩ = some (.slice s.rs.a1 s.rs.n1 s.rs.c1) ∧ X.cell? ⟨p0, 3, none⟩ = some (.slice s.rs.a2 s.rs.n2 s.rs.c2) ∧ X.cell? ⟨p1, 0, none⟩ = some (.int .i64 x0) ∧ X.cell? ⟨p1, 1, none⟩ = some (.int .i64 x1) ∧ X.cell? ⟨p1, 2, none⟩ = some (.int .i64 x2) ∧ X.cell? ⟨p1, 3, none⟩ = some (.int .i64 x3) ∧ X.cell? ⟨p1, 4, none⟩ = some (.int .i64 x4)))
   have HI1 := Lib.hid (within_any x3 c x4 V1.drew)
   have HO1 := Lib.hid (HO.out x0 c V1.drew hP1.below.drew)
   have HSU := Lib.hid (HSUM.out x0 c st V1.drew hP1.below.drew)
   have HOV := Lib.hid (fun (X : World) (hb : Below V1.heap.size V1 X) => HOVR.out x0 c (sumF r.loads DS x0 c st) X (HP1.out.keep hb).below)
   generalize inR x3 c x4 = i1 at *
   generalize onlyB DS x0 c = o1 at *
   generalize sumF r.loads DS x0 c st = sm at *
   generalize overF r.caps x0 c sm = ov at *
   generalize blOne r DS st c ⟨x0, x1, x2, x3, x4⟩ = bp at *
   clear hcl hx hP hP1 HO HXS HF HAN HSUM HOVR
   go_upto_region 5 with fail
   rw [← hV1, ← hp1]
   have q0 := HP1.out.c 0 0 rfl rfl
   have q1' := HP1.out.c 0 1 rfl rfl
   have q2 := HP1.out.c 0 2 rfl rfl
   have q3 := HP1.out.c 0 3 rfl rfl
   have ql' := HP1.out.lt 0 rfl
   clear hV1 hp1 e0 e1 e2 e3 e4 eA q1 ql
   by_cases h1 : x1 = st
   ·have d1 : (x1 == st) = true := by simpa using h1
    rw [decide_eq_true h1, Bool.true_and] at HB
    clear h1
    cases i1 with
    | true =>
     cases o1 with
     | true =>
      cases ov with
      | true =>
       have HV := Lib.hid (HYES.out (HB.out.trans rfl))
       go_wp2_with fail
       refine Lx.region (C := fun X => X.cell? ⟨p0, 0, none⟩ = some (.slice s.ad s.nd s.cd) ∧ X.cell? ⟨p0, 1, none⟩ = some (.slice s.rs.a0 s.rs.n0 s.rs.c0) ∧ X.cell? ⟨p0, 2, none⟩ = some (.slice s.rs.a1 s.rs.n1 s.rs.c1) ∧ X.cell? ⟨p0, 3, none⟩ = some (.slice s.rs.a2 s.rs.n2 s.rs.c2) ∧ X.cell? ⟨p1, 0, none⟩ = some (.int .i64 x0) ∧ X.cell? ⟨p1, 1, none⟩ = some (.int .i64 x1) ∧ X.cell? ⟨p1, 2, none⟩ = some (.int .i64 x2) ∧ X.cell? ⟨p1, 3, none⟩ = some (.int .i64 x3) ∧ X.cell? ⟨p1, 4, none⟩ = some (.int .i64 x4)) (hs := [20, 22]) (by kernel_rfl) (by kernel_rfl) (HC.out _ HDR.out) ?_
       repeat' (first | ((first | refine Lx.ln (fun K hK => ?_) | (first | (refine Lx.lp (v := ?_) ?_ (fun K hK => ?_); rotate_left 1; intro w' hCw; try dsimp only at hCw) | (refine Lx.lr (v := ?_) ?_ (fun K hK => ?_); rotate_left 1)); go_simp; first | done | with_reducible rfl); go_simp; refine hK _ ?_; clear hK K) | (refine Lx.le (fun K hK => ?_); go_simp; (first | (go_at_call 154; refine HI1.out.mono ?_; rintro e W6 ⟨rfl, rfl⟩) | (go_at_call 149; refine HO1.out.mono ?_; rintro e W6 ⟨rfl, rfl⟩) | (go_at_call 152; refine HSU.out.mono ?_; rintro e W7 ⟨rfl, hb7⟩; have HB7 := Lib.hid (HDR.out.trans (hb7.mono HDR.out.size)); clear hb7) | (go_at_call 151; refine (HOV.out W7 HB7.out).mono ?_; rintro e W8 ⟨rfl, hb8⟩; have HB8 := Lib.hid (HB7.out.trans (hb8.mono HB7.out.size)); clear hb8) | skip); refine hK _ _ (by first | with_reducible exact HC.out _ HDR.out | with_reducible exact HC.out _ HB7.out | with_reducible exact HC.out _ HB8.out) ?_; clear hK K))
       all_goals (refine Lx.lex_nil ?_)
       go_wp2_with fail
       go_ret
       exact ⟨ret_bool HV.out.symm, (HP1.out.keep HB8.out).below⟩
      | false =>
       have HN := Lib.hid (HNO.out (HB.out.trans rfl))
       go_wp2_with fail
       refine Lx.region (C := fun X => X.cell? ⟨p0, 0, none⟩ = some (.slice s.ad s.nd s.cd) ∧ X.cell? ⟨p0, 1, none⟩ = some (.slice s.rs.a0 s.rs.n0 s.rs.c0) ∧ X.cell? ⟨p0, 2, none⟩ = some (.slice s.rs.a1 s.rs.n1 s.rs.c1) ∧ X.cell? ⟨p0, 3, none⟩ = some (.slice s.rs.a2 s.rs.n2 s.rs.c2) ∧ X.cell? ⟨p1, 0, none⟩ = some (.int .i64 x0) ∧ X.cell? ⟨p1, 1, none⟩ = some (.int .i64 x1) ∧ X.cell? ⟨p1, 2, none⟩ = some (.int .i64 x2) ∧ X.cell? ⟨p1, 3, none⟩ = some (.int .i64 x3) ∧ X.cell? ⟨p1, 4, none⟩ = some (.int .i64 x4)) (hs := [20, 22]) (by kernel_rfl) (by kernel_rfl) (HC.out _ HDR.out) ?_
       repeat' (first | ((first | refine Lx.ln (fun K hK => ?_) | (first | (refine Lx.lp (v := ?_) ?_ (fun K hK => ?_); rotate_left 1; intro w' hCw; try dsimp only at hCw) | (refine Lx.lr (v := ?_) ?_ (fun K hK => ?_); rotate_left 1)); go_simp; first | done | with_reducible rfl); go_simp; refine hK _ ?_; clear hK K) | (refine Lx.le (fun K hK => ?_); go_simp; (first | (go_at_call 154; refine HI1.out.mono ?_; rintro e W6 ⟨rfl, rfl⟩) | (go_at_call 149; refine HO1.out.mono ?_; rintro e W6 ⟨rfl, rfl⟩) | (go_at_call 152; refine HSU.out.mono ?_; rintro e W7 ⟨rfl, hb7⟩; have HB7 := Lib.hid (HDR.out.trans (hb7.mono HDR.out.size)); clear hb7) | (go_at_call 151; refine (HOV.out W7 HB7.out).mono ?_; rintro e W8 ⟨rfl, hb8⟩; have HB8 := Lib.hid (HB7.out.trans (hb8.mono HB7.out.size)); clear hb8) | skip); refine hK _ _ (by first | with_reducible exact HC.out _ HDR.out | with_reducible exact HC.out _ HB7.out | with_reducible exact HC.out _ HB8.out) ?_; clear hK K))
       all_goals (refine Lx.lex_nil ?_)
       go_wp2_with fail
       go_roundw
       case rel => exact ⟨k + 1, hlt, by go_num, HN.out, (HP1.out.keep HB8.out).sub (List.Sublist.cons_cons _ (List.nil_sublist _))⟩
       case measure => simp [intOf]; omega
     | false =>
      have HN := Lib.hid (HNO.out (HB.out.trans rfl))
      go_wp2_with fail
      refine Lx.region (C := fun X => X.cell? ⟨p0, 0, none⟩ = some (.slice s.ad s.nd s.cd) ∧ X.cell? ⟨p0, 1, none⟩ = some (.slice s.rs.a0 s.rs.n0 s.rs.c0) ∧ X.cell? ⟨p0, 2, none⟩ = some (.slice s.rs.a1 s.rs.n1 s.rs.c1) ∧ X.cell? ⟨p0, 3, none⟩ = some (.slice s.rs.a2 s.rs.n2 s.rs.c2) ∧ X.cell? ⟨p1, 0, none⟩ = some (.int .i64 x0) ∧ X.cell? ⟨p1, 1, none⟩ = some (.int .i64 x1) ∧ X.cell? ⟨p1, 2, none⟩ = some (.int .i64 x2) ∧ X.cell? ⟨p1, 3, none⟩ = some (.int .i64 x3) ∧ X.cell? ⟨p1, 4, none⟩ = some (.int .i64 x4)) (hs := [20, 22]) (by kernel_rfl) (by kernel_rfl) (HC.out _ HDR.out) ?_
      repeat' (first | ((first | refine Lx.ln (fun K hK => ?_) | (first | (refine Lx.lp (v := ?_) ?_ (fun K hK => ?_); rotate_left 1; intro w' hCw; try dsimp only at hCw) | (refine Lx.lr (v := ?_) ?_ (fun K hK => ?_); rotate_left 1)); go_simp; first | done | with_reducible rfl); go_simp; refine hK _ ?_; clear hK K) | (refine Lx.le (fun K hK => ?_); go_simp; (first | (go_at_call 154; refine HI1.out.mono ?_; rintro e W6 ⟨rfl, rfl⟩) | (go_at_call 149; refine HO1.out.mono ?_; rintro e W6 ⟨rfl, rfl⟩) | (go_at_call 152; refine HSU.out.mono ?_; rintro e W7 ⟨rfl, hb7⟩; have HB7 := Lib.hid (HDR.out.trans (hb7.mono HDR.out.size)); clear hb7) | (go_at_call 151; refine (HOV.out W7 HB7.out).mono ?_; rintro e W8 ⟨rfl, hb8⟩; have HB8 := Lib.hid (HB7.out.trans (hb8.mono HB7.out.size)); clear hb8) | skip); refine hK _ _ (by first | with_reducible exact HC.out _ HDR.out | with_reducible exact HC.out _ HB7.out | with_reducible exact HC.out _ HB8.out) ?_; clear hK K))
      all_goals (refine Lx.lex_nil ?_)
      go_wp2_with fail
      go_roundw
      case rel => exact ⟨k + 1, hlt, by go_num, HN.out, (HP1.out.keep HDR.out).sub (List.Sublist.cons_cons _ (List.nil_sublist _))⟩
      case measure => simp [intOf]; omega
    | false =>
     have HN := Lib.hid (HNO.out (HB.out.trans rfl))
     go_wp2_with fail
     refine Lx.region (C := fun X => X.cell? ⟨p0, 0, none⟩ = some (.slice s.ad s.nd s.cd) ∧ X.cell? ⟨p0, 1, none⟩ = some (.slice s.rs.a0 s.rs.n0 s.rs.c0) ∧ X.cell? ⟨p0, 2, none⟩ = some (.slice s.rs.a1 s.rs.n1 s.rs.c1) ∧ X.cell? ⟨p0, 3, none⟩ = some (.slice s.rs.a2 s.rs.n2 s.rs.c2) ∧ X.cell? ⟨p1, 0, none⟩ = some (.int .i64 x0) ∧ X.cell? ⟨p1, 1, none⟩ = some (.int .i64 x1) ∧ X.cell? ⟨p1, 2, none⟩ = some (.int .i64 x2) ∧ X.cell? ⟨p1, 3, none⟩ = some (.int .i64 x3) ∧ X.cell? ⟨p1, 4, none⟩ = some (.int .i64 x4)) (hs := [20, 22]) (by kernel_rfl) (by kernel_rfl) (HC.out _ HDR.out) ?_
     repeat' (first | ((first | refine Lx.ln (fun K hK => ?_) | (first | (refine Lx.lp (v := ?_) ?_ (fun K hK => ?_); rotate_left 1; intro w' hCw; try dsimp only at hCw) | (refine Lx.lr (v := ?_) ?_ (fun K hK => ?_); rotate_left 1)); go_simp; first | done | with_reducible rfl); go_simp; refine hK _ ?_; clear hK K) | (refine Lx.le (fun K hK => ?_); go_simp; (first | (go_at_call 154; refine HI1.out.mono ?_; rintro e W6 ⟨rfl, rfl⟩) | (go_at_call 149; refine HO1.out.mono ?_; rintro e W6 ⟨rfl, rfl⟩) | (go_at_call 152; refine HSU.out.mono ?_; rintro e W7 ⟨rfl, hb7⟩; have HB7 := Lib.hid (HDR.out.trans (hb7.mono HDR.out.size)); clear hb7) | (go_at_call 151; refine (HOV.out W7 HB7.out).mono ?_; rintro e W8 ⟨rfl, hb8⟩; have HB8 := Lib.hid (HB7.out.trans (hb8.mono HB7.out.size)); clear hb8) | skip); refine hK _ _ (by first | with_reducible exact HC.out _ HDR.out | with_reducible exact HC.out _ HB7.out | with_reducible exact HC.out _ HB8.out) ?_; clear hK K))
     all_goals (refine Lx.lex_nil ?_)
     go_wp2_with fail
     go_roundw
     case rel => exact ⟨k + 1, hlt, by go_num, HN.out, (HP1.out.keep HDR.out).sub (List.Sublist.cons_cons _ (List.nil_sublist _))⟩
     case measure => simp [intOf]; omega
   ·have d1 : (x1 == st) = false := by simpa using h1
    rw [decide_eq_false h1, Bool.false_and] at HB
    clear h1
    have HN := Lib.hid (HNO.out (HB.out.trans rfl))
    go_wp2_with fail
    refine Lx.region (C := fun X => X.cell? ⟨p0, 0, none⟩ = some (.slice s.ad s.nd s.cd) ∧ X.cell? ⟨p0, 1, none⟩ = some (.slice s.rs.a0 s.rs.n0 s.rs.c0) ∧ X.cell? ⟨p0, 2, none⟩ = some (.slice s.rs.a1 s.rs.n1 s.rs.c1) ∧ X.cell? ⟨p0, 3, none⟩ = some (.slice s.rs.a2 s.rs.n2 s.rs.c2) ∧ X.cell? ⟨p1, 0, none⟩ = some (.int .i64 x0) ∧ X.cell? ⟨p1, 1, none⟩ = some (.int .i64 x1) ∧ X.cell? ⟨p1, 2, none⟩ = some (.int .i64 x2) ∧ X.cell? ⟨p1, 3, none⟩ = some (.int .i64 x3) ∧ X.cell? ⟨p1, 4, none⟩ = some (.int .i64 x4)) (hs := [20, 22]) (by kernel_rfl) (by kernel_rfl) (HC.out _ HDR.out) ?_
    repeat' (first | ((first | refine Lx.ln (fun K hK => ?_) | (first | (refine Lx.lp (v := ?_) ?_ (fun K hK => ?_); rotate_left 1; intro w' hCw; try dsimp only at hCw) | (refine Lx.lr (v := ?_) ?_ (fun K hK => ?_); rotate_left 1)); go_simp; first | done | with_reducible rfl); go_simp; refine hK _ ?_; clear hK K) | (refine Lx.le (fun K hK => ?_); go_simp; (first | (go_at_call 154; refine HI1.out.mono ?_; rintro e W6 ⟨rfl, rfl⟩) | (go_at_call 149; refine HO1.out.mono ?_; rintro e W6 ⟨rfl, rfl⟩) | (go_at_call 152; refine HSU.out.mono ?_; rintro e W7 ⟨rfl, hb7⟩; have HB7 := Lib.hid (HDR.out.trans (hb7.mono HDR.out.size)); clear hb7) | (go_at_call 151; refine (HOV.out W7 HB7.out).mono ?_; rintro e W8 ⟨rfl, hb8⟩; have HB8 := Lib.hid (HB7.out.trans (hb8.mono HB7.out.size)); clear hb8) | skip); refine hK _ _ (by first | with_reducible exact HC.out _ HDR.out | with_reducible exact HC.out _ HB7.out | with_reducible exact HC.out _ HB8.out) ?_; clear hK K))
    all_goals (refine Lx.lex_nil ?_)
    go_wp2_with fail
    go_roundw
    case rel => exact ⟨k + 1, hlt, by go_num, HN.out, (HP1.out.keep HDR.out).sub (List.Sublist.cons_cons _ (List.nil_sublist _))⟩
    case measure => simp [intOf]; omega
  ·obtain rfl : k = s.rs.n1 := by omega
   have j0 : ¬ (s.rs.n1 : Int) < (s.rs.n1 : Int) := by omega
   have HV : Hid (ans = false) := Lib.hid (by rw [HF.out]; have h := HAN.out; rwa [List.take_of_length_le (by rw [Hlen.out]; exact Nat.le_refl _)] at h)
   clear HAN hP
   go_wp2_with fail
   go_ret
   exact ⟨ret_bool HV.out.symm, HP.out.below⟩
theorem rremoves_any (s : PrbS) (A : Option Addr) (n cp : Nat) (st c : Int) (w : World) (ds : List Dom) (r : Rul) (hr : VPr ds r) (h : PrbAt w w.heap.size s ds r) (D : List Dom) (hn : n ≤ 9223372036854775807) (hD : DomsAt w w.heap.size A n D) (hd : ∀ d ∈ D, d.len ≤ 9223372036854775807) (hc : 2 ≤ c ∧ c ≤ 51) :
  Calls Tryz.prog 148 #[s.val, .slice A n cp, .int .i64 st, .int .i64 c] w (RetPost (.bool (remF r (D.map Dom.say) st c)) w.heap.size w) := by
 obtain ⟨p0, hp0⟩ : ∃ q, q = w.heap.size := ⟨_, rfl⟩
 obtain ⟨V0, hV0⟩ : ∃ V, V = w.alloc (.cells #[.slice s.ad s.nd s.cd, .slice s.rs.a0 s.rs.n0 s.rs.c0, .slice s.rs.a1 s.rs.n1 s.rs.c1, .slice s.rs.a2 s.rs.n2 s.rs.c2] 29) := ⟨_, rfl⟩
 have hP0 : Hp w w V0 [.blk p0 29 [.slice s.ad s.nd s.cd, .slice s.rs.a0 s.rs.n0 s.rs.c0, .slice s.rs.a1 s.rs.n1 s.rs.c1, .slice s.rs.a2 s.rs.n2 s.rs.c2]] [] := by
  have h := (Hp.start w).alloc [.slice s.ad s.nd s.cd, .slice s.rs.a0 s.rs.n0 s.rs.c0, .slice s.rs.a1 s.rs.n1 s.rs.c1, .slice s.rs.a2 s.rs.n2 s.rs.c2] 29
  rw [hV0, hp0]; exact h
 have hbp := bypair_any s A n cp st c V0.drew ds r hr ⟨h.1.keep hP0.below.drew, h.2.keep hP0.below.drew⟩ D hn (hD.keep hP0.below.drew) hd hc
 have hsu := fun (W : World) (hb : Below V0.heap.size V0 W) => rsum18_any s A n cp st c (-1) W ds r hr ⟨h.1.keep (hP0.keep hb).below, h.2.keep (hP0.keep hb).below⟩ D hn (hD.keep (hP0.keep hb).below) hd
 have hov := fun (W : World) (hb : Below V0.heap.size V0 W) => rover18_any s st c (sumF r.loads (D.map Dom.say) st c (-1)) W ds r hr ⟨h.1.keep (hP0.keep hb).below, h.2.keep (hP0.keep hb).below⟩
 have hbl := fun (W : World) (hb : Below V0.heap.size V0 W) => rbyload_any s A n cp st c W ds r hr ⟨h.1.keep (hP0.keep hb).below, h.2.keep (hP0.keep hb).below⟩ D hn (hD.keep (hP0.keep hb).below) hd
 unfold PrbS.val at hbp hsu hov hbl
 have HBP := Lib.hid hbp
 have HSU := Lib.hid hsu
 have HOV := Lib.hid hov
 have HBL := Lib.hid hbl
 have HDR := Lib.hid ((Below.refl V0.heap.size V0).drew)
 have HC := Lib.hid (fun (X : World) (hb : Below V0.heap.size V0 X) => (by have hk := hP0.keep hb; exact ⟨hk.c 0 0 rfl rfl, hk.c 0 1 rfl rfl, hk.c 0 2 rfl rfl, hk.c 0 3 rfl rfl⟩ : X.cell? ⟨p0, 0, none⟩ = some (.slice s.ad s.nd s.cd) ∧ X.cell? ⟨p0, 1, none⟩ = some (.slice s.rs.a0 s.rs.n0 s.rs.c0) ∧ X.cell? ⟨p0, 2, none⟩ = some (.slice s.rs.a1 s.rs.n1 s.rs.c1) ∧ X.cell? ⟨p0, 3, none⟩ = some (.slice s.rs.a2 s.rs.n2 s.rs.c2)))
 have HE : Eqn (remF r (D.map Dom.say) st c) (byPairF r.pairs (D.map Dom.say) st c || (overF r.caps st c (sumF r.loads (D.map Dom.say) st c (-1)) || byLoadF r (D.map Dom.say) st c)) := rfl
 generalize remF r (D.map Dom.say) st c = ans at *
 generalize byPairF r.pairs (D.map Dom.say) st c = bp at *
 generalize sumF r.loads (D.map Dom.say) st c (-1) = sm at *
 generalize overF r.caps st c sm = ov at *
 generalize byLoadF r (D.map Dom.say) st c = bl at *
 have q0 := hP0.c 0 0 rfl rfl
 have q1 := hP0.c 0 1 rfl rfl
 have q2 := hP0.c 0 2 rfl rfl
 have q3 := hP0.c 0 3 rfl rfl
 have ql := hP0.lt 0 rfl
 have HP0 := Lib.hid hP0
 unfold PrbS.val
 clear hP0 h hr hD hd hbp hsu hov hbl
 go_enter Tryz.func148, Tryz.ntmps148
 go_upto_region 1 with fail
 rw [← hV0, ← hp0]
 clear hV0 hp0
 cases bp with
 | true =>
  rw [Bool.true_or] at HE
  go_wp2_with fail
  refine Lx.region (C := fun X => X.cell? ⟨p0, 0, none⟩ = some (.slice s.ad s.nd s.cd) ∧ X.cell? ⟨p0, 1, none⟩ = some (.slice s.rs.a0 s.rs.n0 s.rs.c0) ∧ X.cell? ⟨p0, 2, none⟩ = some (.slice s.rs.a1 s.rs.n1 s.rs.c1) ∧ X.cell? ⟨p0, 3, none⟩ = some (.slice s.rs.a2 s.rs.n2 s.rs.c2)) (hs := [6]) (by kernel_rfl) (by kernel_rfl) (HC.out _ HDR.out) ?_
  repeat' (first | ((first | refine Lx.ln (fun K hK => ?_) | (first | (refine Lx.lp (v := ?_) ?_ (fun K hK => ?_); rotate_left 1; intro w' hCw; try dsimp only at hCw) | (refine Lx.lr (v := ?_) ?_ (fun K hK => ?_); rotate_left 1)); go_simp; first | done | with_reducible rfl); go_simp; refine hK _ ?_; clear hK K) | (refine Lx.le (fun K hK => ?_); go_simp; (first | (go_at_call 150; refine HBP.out.mono ?_; rintro e W6 ⟨rfl, hb6⟩; have HB6 := Lib.hid (HDR.out.trans (hb6.mono HDR.out.size)); clear hb6; obtain ⟨a60, a61, a62, a63⟩ := HC.out W6 HB6.out; have a6l := (HP0.out.keep HB6.out).lt 0 rfl) | (go_at_call 152; refine (HSU.out W6 HB6.out).mono ?_; rintro e W7 ⟨rfl, hb7⟩; have HB7 := Lib.hid (HB6.out.trans (hb7.mono HB6.out.size)); clear hb7; obtain ⟨a70, a71, a72, a73⟩ := HC.out W7 HB7.out; have a7l := (HP0.out.keep HB7.out).lt 0 rfl) | (go_at_call 151; refine (HOV.out W7 HB7.out).mono ?_; rintro e W8 ⟨rfl, hb8⟩; have HB8 := Lib.hid (HB7.out.trans (hb8.mono HB7.out.size)); clear hb8; obtain ⟨a80, a81, a82, a83⟩ := HC.out W8 HB8.out; have a8l := (HP0.out.keep HB8.out).lt 0 rfl) | (go_at_call 153; refine (HBL.out W8 HB8.out).mono ?_; rintro e W9 ⟨rfl, hb9⟩; have HB9 := Lib.hid (HB8.out.trans (hb9.mono HB8.out.size)); clear hb9) | skip); refine hK _ _ (by first | with_reducible exact HC.out _ HDR.out | with_reducible exact HC.out _ HB6.out | with_reducible exact HC.out _ HB7.out | with_reducible exact HC.out _ HB8.out | with_reducible exact HC.out _ HB9.out) ?_; clear hK K))
  all_goals (refine Lx.lex_nil ?_)
  go_wp2_with fail
  go_ret
  exact ⟨ret_bool HE.out.symm, (HP0.out.keep HB6.out).below⟩
 | false =>
  rw [Bool.false_or] at HE
  cases ov with
  | true =>
   rw [Bool.true_or] at HE
   go_wp2_with fail
   refine Lx.region (C := fun X => X.cell? ⟨p0, 0, none⟩ = some (.slice s.ad s.nd s.cd) ∧ X.cell? ⟨p0, 1, none⟩ = some (.slice s.rs.a0 s.rs.n0 s.rs.c0) ∧ X.cell? ⟨p0, 2, none⟩ = some (.slice s.rs.a1 s.rs.n1 s.rs.c1) ∧ X.cell? ⟨p0, 3, none⟩ = some (.slice s.rs.a2 s.rs.n2 s.rs.c2)) (hs := [6]) (by kernel_rfl) (by kernel_rfl) (HC.out _ HDR.out) ?_
   repeat' (first | ((first | refine Lx.ln (fun K hK => ?_) | (first | (refine Lx.lp (v := ?_) ?_ (fun K hK => ?_); rotate_left 1; intro w' hCw; try dsimp only at hCw) | (refine Lx.lr (v := ?_) ?_ (fun K hK => ?_); rotate_left 1)); go_simp; first | done | with_reducible rfl); go_simp; refine hK _ ?_; clear hK K) | (refine Lx.le (fun K hK => ?_); go_simp; (first | (go_at_call 150; refine HBP.out.mono ?_; rintro e W6 ⟨rfl, hb6⟩; have HB6 := Lib.hid (HDR.out.trans (hb6.mono HDR.out.size)); clear hb6; obtain ⟨a60, a61, a62, a63⟩ := HC.out W6 HB6.out; have a6l := (HP0.out.keep HB6.out).lt 0 rfl) | (go_at_call 152; refine (HSU.out W6 HB6.out).mono ?_; rintro e W7 ⟨rfl, hb7⟩; have HB7 := Lib.hid (HB6.out.trans (hb7.mono HB6.out.size)); clear hb7; obtain ⟨a70, a71, a72, a73⟩ := HC.out W7 HB7.out; have a7l := (HP0.out.keep HB7.out).lt 0 rfl) | (go_at_call 151; refine (HOV.out W7 HB7.out).mono ?_; rintro e W8 ⟨rfl, hb8⟩; have HB8 := Lib.hid (HB7.out.trans (hb8.mono HB7.out.size)); clear hb8; obtain ⟨a80, a81, a82, a83⟩ := HC.out W8 HB8.out; have a8l := (HP0.out.keep HB8.out).lt 0 rfl) | (go_at_call 153; refine (HBL.out W8 HB8.out).mono ?_; rintro e W9 ⟨rfl, hb9⟩; have HB9 := Lib.hid (HB8.out.trans (hb9.mono HB8.out.size)); clear hb9) | skip); refine hK _ _ (by first | with_reducible exact HC.out _ HDR.out | with_reducible exact HC.out _ HB6.out | with_reducible exact HC.out _ HB7.out | with_reducible exact HC.out _ HB8.out | with_reducible exact HC.out _ HB9.out) ?_; clear hK K))
   all_goals (refine Lx.lex_nil ?_)
   go_wp2_with fail
   go_ret
   exact ⟨ret_bool HE.out.symm, (HP0.out.keep HB8.out).below⟩
  | false =>
   rw [Bool.false_or] at HE
   go_wp2_with fail
   refine Lx.region (C := fun X => X.cell? ⟨p0, 0, none⟩ = some (.slice s.ad s.nd s.cd) ∧ X.cell? ⟨p0, 1, none⟩ = some (.slice s.rs.a0 s.rs.n0 s.rs.c0) ∧ X.cell? ⟨p0, 2, none⟩ = some (.slice s.rs.a1 s.rs.n1 s.rs.c1) ∧ X.cell? ⟨p0, 3, none⟩ = some (.slice s.rs.a2 s.rs.n2 s.rs.c2)) (hs := [6]) (by kernel_rfl) (by kernel_rfl) (HC.out _ HDR.out) ?_
   repeat' (first | ((first | refine Lx.ln (fun K hK => ?_) | (first | (refine Lx.lp (v := ?_) ?_ (fun K hK => ?_); rotate_left 1; intro w' hCw; try dsimp only at hCw) | (refine Lx.lr (v := ?_) ?_ (fun K hK => ?_); rotate_left 1)); go_simp; first | done | with_reducible rfl); go_simp; refine hK _ ?_; clear hK K) | (refine Lx.le (fun K hK => ?_); go_simp; (first | (go_at_call 150; refine HBP.out.mono ?_; rintro e W6 ⟨rfl, hb6⟩; have HB6 := Lib.hid (HDR.out.trans (hb6.mono HDR.out.size)); clear hb6; obtain ⟨a60, a61, a62, a63⟩ := HC.out W6 HB6.out; have a6l := (HP0.out.keep HB6.out).lt 0 rfl) | (go_at_call 152; refine (HSU.out W6 HB6.out).mono ?_; rintro e W7 ⟨rfl, hb7⟩; have HB7 := Lib.hid (HB6.out.trans (hb7.mono HB6.out.size)); clear hb7; obtain ⟨a70, a71, a72, a73⟩ := HC.out W7 HB7.out; have a7l := (HP0.out.keep HB7.out).lt 0 rfl) | (go_at_call 151; refine (HOV.out W7 HB7.out).mono ?_; rintro e W8 ⟨rfl, hb8⟩; have HB8 := Lib.hid (HB7.out.trans (hb8.mono HB7.out.size)); clear hb8; obtain ⟨a80, a81, a82, a83⟩ := HC.out W8 HB8.out; have a8l := (HP0.out.keep HB8.out).lt 0 rfl) | (go_at_call 153; refine (HBL.out W8 HB8.out).mono ?_; rintro e W9 ⟨rfl, hb9⟩; have HB9 := Lib.hid (HB8.out.trans (hb9.mono HB8.out.size)); clear hb9) | skip); refine hK _ _ (by first | with_reducible exact HC.out _ HDR.out | with_reducible exact HC.out _ HB6.out | with_reducible exact HC.out _ HB7.out | with_reducible exact HC.out _ HB8.out | with_reducible exact HC.out _ HB9.out) ?_; clear hK K))
   all_goals (refine Lx.lex_nil ?_)
   go_wp2_with fail
   go_ret
   exact ⟨ret_bool HE.out.symm, (HP0.out.keep HB9.out).below⟩
end Go.Proofs.YtdpbbhbegehcjaaGreatDoor
