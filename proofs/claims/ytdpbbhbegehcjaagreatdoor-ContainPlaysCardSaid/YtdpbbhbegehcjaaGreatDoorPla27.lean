/- A call on a store and on the reference: Pack. -/
import Derived.Test.YtdpbbhbegehcjaaGreatDoorPla20
import Derived.Test.YtdpbbhbegehcjaaGreatDoorPla23
import Derived.Test.YtdpbbhbegehcjaaGreatDoorPla24
import Derived.Test.YtdpbbhbegehcjaaGreatDoorPla25
import Derived.Test.YtdpbbhbegehcjaaGreatDoorPla26
set_option maxRecDepth 100000
set_option maxHeartbeats 4000000
namespace Go.Proofs.YtdpbbhbegehcjaaGreatDoor
open Go.RowKit Go.Shelf
theorem find_at {α : Type} {xs : List α} {f : α → Bool} {k : Nat} {x : α} (hx : xs[k]? = some x) (h : (xs.take k).any f = false) (hf : f x = true) : xs.find? f = some x := by
 have hk : k < xs.length := (List.getElem?_eq_some_iff.1 hx).1
 have e : xs = xs.take k ++ x :: xs.drop (k + 1) := by
  have h1 : xs.drop k = x :: xs.drop (k + 1) := by
   rw [List.drop_eq_getElem_cons hk, (List.getElem?_eq_some_iff.1 hx).2]
  rw [← h1, List.take_append_drop]
 rw [e, List.find?_append]
 have h2 : (xs.take k).find? f = none := List.find?_eq_none.2 (fun y hy => by rw [List.any_eq_false] at h; exact h y hy)
 rw [h2, List.find?_cons, hf]; rfl
theorem find_no {α : Type} {xs : List α} {f : α → Bool} (h : xs.any f = false) : xs.find? f = none := List.find?_eq_none.2 (fun y hy => by rw [List.any_eq_false] at h; exact h y hy)
def RlkPost (r : (Int × Chs × Prv) × Int) (w : World) (e : Ending) (w' : World) : Prop := ∃ a : Ans, e = .returned (.tuple #[a.val, .int .i64 r.2]) ∧ a.say = r.1 ∧ a.st = 0 ∧ a.At w' ∧ Below w.heap.size w w'
theorem rlk_none {w X : World} {e : Int} (hb : Below w.heap.size w X) : RlkPost ((0, [], ([], [])), e) w (.returned (.tuple #[.agg #[.int .i64 0, .slice none 0 0, .slice none 0 0, .slice none 0 0, .int .i64 0], .int .i64 e])) X :=
 ⟨⟨0, noLem, noPrf, 0⟩, rfl, rfl, rfl, ⟨noLem_at _, noPrf_at _⟩, hb⟩
theorem rlookup_any (m : MsS) (A : Option Addr) (n c : Nat) (w : World) (ds : List Dom) (r : Rul) (L : List Int) (hm : MsAt w m ds r) (hv : validP ds r = true) (hP : ∀ o ∈ m.O, vlGo none o.chs = true) (hQ : ∀ o ∈ m.R, stOk o.sts = true) (hpl : m.O.length ≤ 1000) (hql : m.R.length ≤ 1000) (hn : n ≤ 100000) (hl : Row1 intV w w.heap.size A n L) :
  Calls Tryz.prog 67 #[m.val, .slice A n c] w (RlkPost (lkF ds m.P m.Q L) w) := by
 obtain ⟨p2, hp2⟩ : ∃ q, q = w.heap.size := ⟨_, rfl⟩
 obtain ⟨p4, hp4⟩ : ∃ q, q = w.heap.size + 1 := ⟨_, rfl⟩
 obtain ⟨V0, hV0⟩ : ∃ V, V = (w.alloc (.cells #[.slice m.s.ad m.s.nd m.s.cd, .slice m.s.rs.a0 m.s.rs.n0 m.s.rs.c0, .slice m.s.rs.a1 m.s.rs.n1 m.s.rs.c1, .slice m.s.rs.a2 m.s.rs.n2 m.s.rs.c2, .slice m.pa m.pn m.pc, .slice m.qa m.qn m.qc] 72)).alloc (.cells #[.int .i64 0, .slice none 0 0, .slice none 0 0, .slice none 0 0, .int .i64 0] 51) := ⟨_, rfl⟩
 have hP0 : Hp w w V0 [.blk p2 72 [.slice m.s.ad m.s.nd m.s.cd, .slice m.s.rs.a0 m.s.rs.n0 m.s.rs.c0, .slice m.s.rs.a1 m.s.rs.n1 m.s.rs.c1, .slice m.s.rs.a2 m.s.rs.n2 m.s.rs.c2, .slice m.pa m.pn m.pc, .slice m.qa m.qn m.qc], .blk p4 51 [.int .i64 0, .slice none 0 0, .slice none 0 0, .slice none 0 0, .int .i64 0]] [] := by
  have h := ((Hp.start w).alloc [.slice m.s.ad m.s.nd m.s.cd, .slice m.s.rs.a0 m.s.rs.n0 m.s.rs.c0, .slice m.s.rs.a1 m.s.rs.n1 m.s.rs.c1, .slice m.s.rs.a2 m.s.rs.n2 m.s.rs.c2, .slice m.pa m.pn m.pc, .slice m.qa m.qn m.qc] 72).alloc [.int .i64 0, .slice none 0 0, .slice none 0 0, .slice none 0 0, .int .i64 0] 51
  simp only [World.size_alloc] at h
  rw [hV0, hp2, hp4]; exact h
 have HM := Lib.hid (fun (W : World) (hb : Below w.heap.size w W) => hm.keep hb)
 have HP0 := Lib.hid hP0
 have HV := Lib.hid hv
 have HO := Lib.hid (And.intro hP hQ)
 have hpn : m.pn ≤ 1000 := by have := hm.p.1; omega
 have hqn : m.qn ≤ 1000 := by have := hm.q.1; omega
 have HPL := Eqn.mk hm.p.1
 have HQL := Eqn.mk hm.q.1
 have HLX := Lib.hid (fun (W : World) (hb : Below w.heap.size w W) => hl.keep hb)
 have HVS := Lib.hid (rvst_any A n c V0 L (by omega) (hl.keep hP0.below))
 obtain ⟨R, hR⟩ : ∃ R, R = lkF ds m.P m.Q L := ⟨_, rfl⟩
 rw [← hR]
 have HRE0 := Eqn.mk hR
 unfold MsS.val
 clear hP0 hm hv hQ hP hl hR hql hpl
 go_enter Tryz.func67, Tryz.ntmps67
 go_upto_region 1 with fail
 rw [← hV0, ← hp4, ← hp2]
 clear hV0 hp2 hp4
 cases hvl : stOk L with
 | false =>
  rw [hvl] at HVS
  have HR : Hid (R = ((0, [], ([], [])), 2)) := Lib.hid (by rw [HRE0.out]; unfold lkF; rw [hvl]; rfl)
  clear hvl HRE0
  go_wp2_with fail
  refine HVS.out.mono ?_
  rintro e W1 ⟨rfl, hb1⟩
  have HP1 := Lib.hid (HP0.out.keep hb1)
  clear hb1
  have y0 := HP1.out.c 1 0 rfl rfl
  have y1 := HP1.out.c 1 1 rfl rfl
  have y2 := HP1.out.c 1 2 rfl rfl
  have y3 := HP1.out.c 1 3 rfl rfl
  have y4 := HP1.out.c 1 4 rfl rfl
  have yf := HP1.out.f 1 rfl
  have yl := HP1.out.lt 1 rfl
  go_wp2_with fail
  have hX := (((((HP1.out.set 1 0 (.int .i64 0) rfl).set 1 1 (.slice none 0 0) rfl).set 1 2 (.slice none 0 0) rfl).set 1 3 (.slice none 0 0) rfl).set 1 4 (.int .i64 0) rfl)
  refine bodyPost_ret (v := .tuple #[.agg #[.int .i64 0, .slice none 0 0, .slice none 0 0, .slice none 0 0, .int .i64 0], .int .i64 2]) (by simp [results, Tryz.results67, go_sem, hX.c 1 0 rfl rfl, hX.c 1 1 rfl rfl, hX.c 1 2 rfl rfl, hX.c 1 3 rfl rfl, hX.c 1 4 rfl rfl]) rfl ?_
  rw [HR.out]
  exact rlk_none hX.below
 | true =>
  rw [hvl] at HVS
  have HVT := Lib.hid hvl
  clear hvl
  go_wp2_with fail
  refine HVS.out.mono ?_
  rintro e W1 ⟨rfl, hb1⟩
  have HP1 := Lib.hid (HP0.out.keep hb1)
  clear hb1 HP0 HVS
  have hst := rsts_row m.s W1 ds (by have h1 := (valid_st HV.out).2.1; have h2 := (HM.out W1 HP1.out.below).prb.1.1.1; omega) (HM.out W1 HP1.out.below).prb.1.1
  unfold PrbS.val at hst
  have HSA := Lib.hid hst
  have HIN : Hid (amgF L (ds.map Dom.st) = decide (mi (stS L) (stS (ds.map Dom.st)) = 0)) := Lib.hid (stOk_amg HVT.out (valid_st HV.out).1)
  have hdl : ds.length ≤ 512 := (valid_st HV.out).2.1
  have q0 := HP1.out.c 0 0 rfl rfl
  have q1 := HP1.out.c 0 1 rfl rfl
  have q2 := HP1.out.c 0 2 rfl rfl
  have q3 := HP1.out.c 0 3 rfl rfl
  have ql := HP1.out.lt 0 rfl
  clear hst
  go_wp2_with fail
  refine HSA.out.mono ?_
  rintro e W2 ⟨A5, c5, rfl, hrA, hbA⟩
  have HP2 := Lib.hid (HP1.out.keep hbA)
  have HAM := Lib.hid (among_any A A5 n c ds.length c5 W2 L (ds.map Dom.st) (by omega) (by omega) (HLX.out W2 HP2.out.below) hrA)
  rw [HIN.out] at HAM
  clear hrA hbA HSA q0 q1 q2 q3 ql HP1 HIN
  by_cases hmi : mi (stS L) (stS (ds.map Dom.st)) = 0
  ·rw [decide_eq_true hmi] at HAM
   have HRR : Hid (R = match m.O.find? fun o => amgF L (ofC o.chs) with
    | some o => ((1, o.chs.filter (fun x => hasL L x.1), ([], [])), 0)
    | none => match m.R.find? fun o => amgF o.sts L with
     | some o => ((2, [], o.say), 0)
     | none => ((0, [], ([], [])), 0)) := Lib.hid (by rw [HRE0.out]; exact lk_ref HO.out.1 HO.out.2 HVT.out hmi)
   clear hmi HRE0
   go_wp2_with fail
   refine HAM.out.mono ?_
   rintro e W3 ⟨rfl, hW⟩
   rw [hW] at HP2
   clear hW HAM
   go_wp2_with fail
   go_loopw [6] (fun i wr => ∃ k : Nat, k ≤ m.pn ∧ i = .int .i64 k ∧ ((m.O.take k).any fun o => amgF L (ofC o.chs)) = false ∧ Hp w w wr [.blk p2 72 [.slice m.s.ad m.s.nd m.s.cd, .slice m.s.rs.a0 m.s.rs.n0 m.s.rs.c0, .slice m.s.rs.a1 m.s.rs.n1 m.s.rs.c1, .slice m.s.rs.a2 m.s.rs.n2 m.s.rs.c2, .slice m.pa m.pn m.pc, .slice m.qa m.qn m.qc], .blk p4 51 [.int .i64 0, .slice none 0 0, .slice none 0 0, .slice none 0 0, .int .i64 0]] []) (fun i _ => m.pn - (intOf i).toNat)
   case atStart => exact ⟨0, Nat.zero_le _, rfl, rfl, HP2.out⟩
   case round =>
    clear HP2
    obtain ⟨k, hk, rfl, hany, hP⟩ := hrel
    have HP := Lib.hid hP
    have HAN := Lib.hid hany
    have q4 := hP.c 0 4 rfl rfl
    have ql := hP.lt 0 rfl
    clear hany
    by_cases hlt : k < m.pn
    ·have j0 : (k : Int) < (m.pn : Int) := by omega
     obtain ⟨o, ho⟩ : ∃ o, m.O[k]? = some o := ⟨_, List.getElem?_eq_getElem (by rw [HPL.out]; exact hlt)⟩
     have hom := List.mem_of_getElem? ho
     have hmw := HM.out wr hP.below
     obtain ⟨b, off, e2, _, hcl⟩ := hmw.p.2 (by omega)
     rw [e2] at q4
     have z1 : wr.cell? ⟨b, off + k, none⟩ = some (.slice o.adr o.len o.cap) := by have := hcl k o ho 0 (by decide); rwa [Nat.mul_one, Nat.add_zero] at this
     have hbl : b < wr.heap.size := (lt_of_cell z1).1
     have HOA := Lib.hid (hmw.o o hom)
     have hol := HOA.out.2
     have HYES : Hid (amgF L (ofC o.chs) = true → R = ((1, o.chs.filter (fun x => hasL L x.1), ([], [])), 0)) := Lib.hid (fun h => by rw [HRR.out, find_at (f := fun o : Lem => amgF L (ofC o.chs)) ho HAN.out h])
     have HNO : Hid (amgF L (ofC o.chs) = false → ((m.O.take (k + 1)).any fun o => amgF L (ofC o.chs)) = false) := Lib.hid (fun h => any_take (f := fun o : Lem => amgF L (ofC o.chs)) ho HAN.out h)
     have HKW := Lib.hid (fun (X : World) (hb : Below wr.heap.size wr X) => (⟨by have := (HP.out.keep hb).c 0 4 rfl rfl; rwa [e2] at this, (World.cell?_of_block (a := ⟨b, off + k, none⟩) (hb.block b hbl)).trans z1, (HP.out.keep hb).lt 0 rfl⟩ : X.cell? ⟨p2, 4, none⟩ = some (.slice (some ⟨b, off, none⟩) m.pn m.pc) ∧ X.cell? ⟨b, off + k, none⟩ = some (.slice o.adr o.len o.cap) ∧ p2 < X.heap.size))
     have HS2 := Lib.hid (asts_row o.adr o.len o.cap wr o.chs hol HOA.out.rowS)
     clear ho hom hmw hcl hP HAN HRR e2
     go_wp2_with fail
     refine HS2.out.mono ?_
     rintro e wB ⟨A6, c6, rfl, hrB, hbB⟩
     have HPB := Lib.hid (HP.out.keep hbB)
     have HBB := Lib.hid hbB
     have HAM := Lib.hid (among_any A A6 n c o.len c6 wB L (ofC o.chs) (by omega) (by omega) (HLX.out wB HPB.out.below) hrB)
     clear hrB hbB HS2 q4 z1 ql
     go_wp2_with fail
     refine HAM.out.mono ?_
     rintro e wC ⟨rfl, hW⟩
     rw [hW] at HPB HBB
     clear hW HAM
     cases ha1 : amgF L (ofC o.chs) with
     | true =>
      have HR := Lib.hid (HYES.out ha1)
      obtain ⟨q4, z1, ql⟩ := HKW.out _ HBB.out
      have hb2 : b < wC.heap.size := (lt_of_cell z1).1
      have HON := Lib.hid (ronly_any o.adr A o.len o.cap n c wC o.chs L hol (by omega) (HOA.out.keep HBB.out).rowS (HLX.out wC HPB.out.below))
      have HFL : Hid ((o.chs.filter (fun x => hasL L x.1)).length ≤ 100000) := Lib.hid (by have h1 := List.length_filter_le (fun x : Int × Int => hasL L x.1) o.chs; have h2 := HOA.out.1.1; omega)
      generalize o.chs.filter (fun x => hasL L x.1) = F at *
      clear ha1 HYES HNO HKW
      go_wp2_with fail
      refine HON.out.mono ?_
      rintro e wD ⟨v, rfl, hown, hbD⟩
      have HPD := Lib.hid (HPB.out.pushRow hbD hown)
      obtain ⟨vA, vc, rfl, _⟩ := own_formS (by decide) hown
      clear hown hbD HON q4 z1 ql hb2
      have y0 := HPD.out.c 1 0 rfl rfl
      have y1 := HPD.out.c 1 1 rfl rfl
      have y2 := HPD.out.c 1 2 rfl rfl
      have y3 := HPD.out.c 1 3 rfl rfl
      have y4 := HPD.out.c 1 4 rfl rfl
      have yf := HPD.out.f 1 rfl
      have yl := HPD.out.lt 1 rfl
      go_wp2_with fail
      have hX := (((((HPD.out.set 1 0 (.int .i64 1) rfl).set 1 1 (.slice vA F.length vc) rfl).set 1 2 (.slice none 0 0) rfl).set 1 3 (.slice none 0 0) rfl).set 1 4 (.int .i64 0) rfl)
      refine bodyPost_ret (v := .tuple #[.agg #[.int .i64 1, .slice vA F.length vc, .slice none 0 0, .slice none 0 0, .int .i64 0], .int .i64 0]) (by simp [results, Tryz.results67, go_sem, hX.c 1 0 rfl rfl, hX.c 1 1 rfl rfl, hX.c 1 2 rfl rfl, hX.c 1 3 rfl rfl, hX.c 1 4 rfl rfl]) rfl ?_
      rw [HR.out]
      exact ⟨⟨1, ⟨vA, F.length, vc, F⟩, noPrf, 0⟩, rfl, rfl, rfl, ⟨lem_own (m := ⟨vA, F.length, vc, F⟩) hX (List.mem_of_getElem? (i := 2) rfl) HFL.out, noPrf_at _⟩, hX.below⟩
     | false =>
      have HN := Lib.hid (HNO.out ha1)
      clear ha1 HYES HNO
      go_wp2_with fail
      go_roundw
      case rel => exact ⟨k + 1, hlt, by go_num, HN.out, HPB.out⟩
      case measure => simp [intOf]; omega
    ·obtain rfl : k = m.pn := by omega
     have j0 : ¬ (m.pn : Int) < (m.pn : Int) := by omega
     have HT : Hid (m.O.take m.pn = m.O) := Lib.hid (List.take_of_length_le (by rw [HPL.out]; exact Nat.le_refl _))
     rw [HT.out] at HAN
     have HR2 : Hid (R = match m.R.find? fun o => amgF o.sts L with
      | some o => ((2, [], o.say), 0)
      | none => ((0, [], ([], [])), 0)) := Lib.hid (by rw [HRR.out, find_no HAN.out])
     clear hP HAN HRR HT
     go_wp2_with fail
     go_loopw [7] (fun i wr => ∃ k : Nat, k ≤ m.qn ∧ i = .int .i64 k ∧ ((m.R.take k).any fun o => amgF o.sts L) = false ∧ Hp w w wr [.blk p2 72 [.slice m.s.ad m.s.nd m.s.cd, .slice m.s.rs.a0 m.s.rs.n0 m.s.rs.c0, .slice m.s.rs.a1 m.s.rs.n1 m.s.rs.c1, .slice m.s.rs.a2 m.s.rs.n2 m.s.rs.c2, .slice m.pa m.pn m.pc, .slice m.qa m.qn m.qc], .blk p4 51 [.int .i64 0, .slice none 0 0, .slice none 0 0, .slice none 0 0, .int .i64 0]] []) (fun i _ => m.qn - (intOf i).toNat)
     case atStart => exact ⟨0, Nat.zero_le _, rfl, rfl, HP.out⟩
     case round =>
      clear HP q4 ql
      obtain ⟨k, hk, rfl, hany, hP⟩ := hrel
      have HP := Lib.hid hP
      have HAN := Lib.hid hany
      have q5 := hP.c 0 5 rfl rfl
      have ql := hP.lt 0 rfl
      clear hany
      by_cases hlt : k < m.qn
      ·have j0 : (k : Int) < (m.qn : Int) := by omega
       obtain ⟨o, ho⟩ : ∃ o, m.R[k]? = some o := ⟨_, List.getElem?_eq_getElem (by rw [HQL.out]; exact hlt)⟩
       have hom := List.mem_of_getElem? ho
       have hmw := HM.out wr hP.below
       obtain ⟨b, off, e2, _, hcl⟩ := hmw.q.2 (by omega)
       rw [e2] at q5
       have z1 : wr.cell? ⟨b, off + k * 2, none⟩ = some (.slice o.sa o.sn o.sc) := hcl k o ho 0 (by decide)
       have z2 : wr.cell? ⟨b, off + k * 2 + 1, none⟩ = some (.slice o.la o.ln o.lc) := hcl k o ho 1 (by decide)
       have hbl : b < wr.heap.size := (lt_of_cell z1).1
       have HOA := Lib.hid (hmw.r o hom)
       have HMO := Lib.hid (fun (W : World) (hb : Below w.heap.size w W) => (HM.out W hb).r o hom)
       have HYES : Hid (amgF o.sts L = true → R = ((2, [], o.say), 0)) := Lib.hid (fun h => by rw [HR2.out, find_at (f := fun o : Prf => amgF o.sts L) ho HAN.out h])
       have HNO : Hid (amgF o.sts L = false → ((m.R.take (k + 1)).any fun o => amgF o.sts L) = false) := Lib.hid (fun h => any_take (f := fun o : Prf => amgF o.sts L) ho HAN.out h)
       have HAM := Lib.hid (among_any o.sa A o.sn o.sc n c wr o.sts L (by have := HOA.out.2.2.2.1; omega) (by omega) HOA.out.ints (HLX.out wr hP.below))
       clear ho hom hmw hcl hP HAN HR2 e2
       go_wp2_with fail
       refine HAM.out.mono ?_
       rintro e wC ⟨rfl, hW⟩
       rw [hW] at HP HOA q5 z1 z2 ql hbl
       clear hW HAM
       cases ha1 : amgF o.sts L with
       | true =>
        have HR := Lib.hid (HYES.out ha1)
        clear ha1 HYES HNO
        have y0 := HP.out.c 1 0 rfl rfl
        have y1 := HP.out.c 1 1 rfl rfl
        have y2 := HP.out.c 1 2 rfl rfl
        have y3 := HP.out.c 1 3 rfl rfl
        have y4 := HP.out.c 1 4 rfl rfl
        have yf := HP.out.f 1 rfl
        have yl := HP.out.lt 1 rfl
        go_wp2_with fail
        have hX := (((((HP.out.set 1 0 (.int .i64 2) rfl).set 1 1 (.slice none 0 0) rfl).set 1 2 (.slice o.sa o.sn o.sc) rfl).set 1 3 (.slice o.la o.ln o.lc) rfl).set 1 4 (.int .i64 0) rfl)
        refine bodyPost_ret (v := .tuple #[.agg #[.int .i64 2, .slice none 0 0, .slice o.sa o.sn o.sc, .slice o.la o.ln o.lc, .int .i64 0], .int .i64 0]) (by simp [results, Tryz.results67, go_sem, hX.c 1 0 rfl rfl, hX.c 1 1 rfl rfl, hX.c 1 2 rfl rfl, hX.c 1 3 rfl rfl, hX.c 1 4 rfl rfl]) rfl ?_
        rw [HR.out]
        exact ⟨⟨2, noLem, o, 0⟩, rfl, rfl, rfl, ⟨noLem_at _, HMO.out _ hX.below⟩, hX.below⟩
       | false =>
        have HN := Lib.hid (HNO.out ha1)
        clear ha1 HYES HNO
        go_wp2_with fail
        go_roundw
        case rel => exact ⟨k + 1, hlt, by go_num, HN.out, HP.out⟩
        case measure => simp [intOf]; omega
      ·obtain rfl : k = m.qn := by omega
       have j0 : ¬ (m.qn : Int) < (m.qn : Int) := by omega
       have HT : Hid (m.R.take m.qn = m.R) := Lib.hid (List.take_of_length_le (by rw [HQL.out]; exact Nat.le_refl _))
       rw [HT.out] at HAN
       have HR : Hid (R = ((0, [], ([], [])), 0)) := Lib.hid (by rw [HR2.out, find_no HAN.out])
       clear hP HAN HR2 HT
       have y0 := HP.out.c 1 0 rfl rfl
       have y1 := HP.out.c 1 1 rfl rfl
       have y2 := HP.out.c 1 2 rfl rfl
       have y3 := HP.out.c 1 3 rfl rfl
       have y4 := HP.out.c 1 4 rfl rfl
       have yf := HP.out.f 1 rfl
       have yl := HP.out.lt 1 rfl
       go_wp2_with fail
       have hX := (((((HP.out.set 1 0 (.int .i64 0) rfl).set 1 1 (.slice none 0 0) rfl).set 1 2 (.slice none 0 0) rfl).set 1 3 (.slice none 0 0) rfl).set 1 4 (.int .i64 0) rfl)
       refine bodyPost_ret (v := .tuple #[.agg #[.int .i64 0, .slice none 0 0, .slice none 0 0, .slice none 0 0, .int .i64 0], .int .i64 0]) (by simp [results, Tryz.results67, go_sem, hX.c 1 0 rfl rfl, hX.c 1 1 rfl rfl, hX.c 1 2 rfl rfl, hX.c 1 3 rfl rfl, hX.c 1 4 rfl rfl]) rfl ?_
       rw [HR.out]
       exact rlk_none hX.below
  ·rw [decide_eq_false hmi] at HAM
   have HR : Hid (R = ((0, [], ([], [])), 9)) := Lib.hid (by rw [HRE0.out]; unfold lkF; rw [if_pos HVT.out, if_neg hmi])
   clear hmi HRE0
   go_wp2_with fail
   refine HAM.out.mono ?_
   rintro e W3 ⟨rfl, hW⟩
   rw [hW] at HP2
   clear hW HAM
   have y0 := HP2.out.c 1 0 rfl rfl
   have y1 := HP2.out.c 1 1 rfl rfl
   have y2 := HP2.out.c 1 2 rfl rfl
   have y3 := HP2.out.c 1 3 rfl rfl
   have y4 := HP2.out.c 1 4 rfl rfl
   have yf := HP2.out.f 1 rfl
   have yl := HP2.out.lt 1 rfl
   go_wp2_with fail
   have hX := (((((HP2.out.set 1 0 (.int .i64 0) rfl).set 1 1 (.slice none 0 0) rfl).set 1 2 (.slice none 0 0) rfl).set 1 3 (.slice none 0 0) rfl).set 1 4 (.int .i64 0) rfl)
   refine bodyPost_ret (v := .tuple #[.agg #[.int .i64 0, .slice none 0 0, .slice none 0 0, .slice none 0 0, .int .i64 0], .int .i64 9]) (by simp [results, Tryz.results67, go_sem, hX.c 1 0 rfl rfl, hX.c 1 1 rfl rfl, hX.c 1 2 rfl rfl, hX.c 1 3 rfl rfl, hX.c 1 4 rfl rfl]) rfl ?_
   rw [HR.out]
   exact rlk_none hX.below
theorem Hp.older {w W X : World} {L : List Ent} {g : Nat} (h : Hp w w W L []) (hg : W.grownBy X (some g)) (hgl : g < w.heap.size) : ∃ v : World, v.heap.size = w.heap.size ∧ w.grownBy v (some g) ∧ Hp v v X L [] := by
 have hgX : g < X.heap.size := by have := h.below.size; have := hg.size; omega
 have hsz : ({ w with heap := w.heap.set g X.heap[g] hgl } : World).heap.size = w.heap.size := by simp
 have hbw : ∀ k, k ≠ g → ({ w with heap := w.heap.set g X.heap[g] hgl } : World).heap[k]? = w.heap[k]? := fun k hk => by
  show (w.heap.set g X.heap[g] hgl)[k]? = w.heap[k]?
  rw [Array.getElem?_set, if_neg (fun e => hk e.symm)]
 have hbg : ({ w with heap := w.heap.set g X.heap[g] hgl } : World).heap[g]? = X.heap[g]? := by
  show (w.heap.set g X.heap[g] hgl)[g]? = X.heap[g]?
  rw [Array.getElem?_set, if_pos rfl, Array.getElem?_eq_getElem hgX]
 have hB : Below w.heap.size ({ w with heap := w.heap.set g X.heap[g] hgl } : World) X := by
  refine ⟨hg.os.trans h.below.os, hg.tape.trans h.below.tape, hg.output.trans h.below.output, ?_, fun k hk => ?_⟩
  ·rw [hsz]; exact Nat.le_trans h.below.size hg.size
  ·by_cases e : k = g
   ·subst e; exact hbg.symm
   ·rw [hbw k e, ← h.below.block k hk]
    exact hg.block k (Nat.lt_of_lt_of_le hk h.below.size) (fun e' => e (Option.some.inj e'))
 refine ⟨{ w with heap := w.heap.set g X.heap[g] hgl }, hsz, ⟨rfl, rfl, rfl, Nat.le_of_eq hsz.symm, fun k hk hne => hbw k (fun e => hne (by rw [e]))⟩, ⟨?_, ?_, ?_, ?_, h.apart, fun _ hd => (by cases hd), List.Pairwise.nil⟩⟩
 ·rw [hsz]; exact hB
 ·exact ⟨by rw [hsz]; exact Nat.le_trans h.below.size hg.size, fun k o hk _ => (hB.block k (by have := (Array.getElem?_eq_some_iff.1 hk).1; rwa [hsz] at this)).trans hk⟩
 ·intro e he
  rw [hsz]
  refine Ent.same (h.all e he) (fun k hk => hg.block k (Ent.lt (h.all e he) hk) (fun e' => ?_))
  have := h.low e he k hk
  have e2 := Option.some.inj e'
  omega
 ·intro e he k hk
  rw [hsz]; exact h.low e he k hk
structure PlSt (W : World) (B : Nat) (p : Nat → Prop) (g : Nat) (x : StS) (m : MsS) (ds : List Dom) (r : Rul) : Prop where
 s : ∃ C, StAt W C p g x ∧ ∀ k, k < C → p k
 ok : StOk x
 say : x.ds.map Dom.say = ds.map Dom.say
 req : x.r = r
 eP : x.P = m.P
 eQ : x.Q = m.Q
 mx : MsX W B p m ds r
 low : ∀ k, k < B → p k
 val : validP ds r = true
section
variable {W X : World} {B g : Nat} {p : Nat → Prop} {x : StS} {m : MsS} {ds : List Dom} {r : Rul}
theorem PlSt.keep (h : PlSt W B p g x m ds r) (hb : Below W.heap.size W X) : PlSt X B p g x m ds r := ⟨by obtain ⟨C, hC, hl⟩ := h.s; exact ⟨C, hC.keep hb, hl⟩, h.ok, h.say, h.req, h.eP, h.eQ, h.mx.keep hb, h.low, h.val⟩
theorem PlSt.lt (h : PlSt W B p g x m ds r) : g < W.heap.size := by obtain ⟨C, hC, _⟩ := h.s; exact hC.blk.lt
theorem PlSt.no (h : PlSt W B p g x m ds r) : ¬ p g := by obtain ⟨C, hC, _⟩ := h.s; exact hC.no
theorem PlSt.blk (h : PlSt W B p g x m ds r) : Blk W g 110 x.cells := by obtain ⟨C, hC, _⟩ := h.s; exact hC.blk
theorem PlSt.le (h : PlSt W B p g x m ds r) : B ≤ g := Nat.le_of_not_lt fun hlt => h.no (h.low g hlt)
theorem PlSt.os (h : PlSt W B p g x m ds r) : (∀ o ∈ m.O, vlGo none o.chs = true) ∧ m.O.length ≤ 1000 := by
 have hp := h.eP
 unfold StS.P MsS.P at hp
 constructor
 ·intro o ho
  have h1 : o.chs ∈ x.pe.map (fun e => e.v.chs) := by rw [hp]; exact List.mem_map.2 ⟨o, ho, rfl⟩
  obtain ⟨e, he, e1⟩ := List.mem_map.1 h1
  rw [← e1]; exact (h.ok.pes e he).2
 ·have h1 := congrArg List.length hp
  rw [List.length_map, List.length_map] at h1
  have := h.ok.pl; omega
theorem PlSt.rs (h : PlSt W B p g x m ds r) : (∀ o ∈ m.R, stOk o.sts = true) ∧ m.R.length ≤ 1000 := by
 have hq := h.eQ
 unfold StS.Q MsS.Q at hq
 constructor
 ·intro o ho
  have h1 : o.say ∈ x.re.map (fun e => e.v.say) := by rw [hq]; exact List.mem_map.2 ⟨o, ho, rfl⟩
  obtain ⟨e, he, e1⟩ := List.mem_map.1 h1
  have h2 := (h.ok.res e he).2
  have h3 : e.v.sts = o.sts := congrArg Prod.fst e1
  rw [← h3]; exact h2
 ·have h1 := congrArg List.length hq
  rw [List.length_map, List.length_map] at h1
  have := h.ok.rl; omega
end
def sp (p : Nat → Prop) (n n1 : Nat) : Nat → Prop := fun k => p k ∧ (k < n ∨ n1 ≤ k)
theorem sp_not {p : Nat → Prop} {g : Nat} (h : ¬ p g) (n n1 : Nat) : ¬ sp p n n1 g := fun h' => h h'.1
theorem MsX.sub {W X : World} {B : Nat} {p q : Nat → Prop} {m : MsS} {ds : List Dom} {r : Rul} (h : MsX W B p m ds r) (hb : Below B W X) (hs : ∀ k, p k → k < W.heap.size → X.heap[k]? = W.heap[k]?) (hpq : ∀ k, p k → q k) : MsX X B q m ds r :=
 MsX.mono (p := p) ⟨h.prb.below hb, Nat.le_trans h.low hb.size, h.nd, h.pp.turn (by decide) hs, fun x hx => (h.o x hx).turn hs, h.q.turn (by decide) hs, fun x hx => (h.r x hx).turn hs⟩ (fun k hk _ => hpq k hk)
theorem StAt.sub {W X : World} {C g : Nat} {p q : Nat → Prop} {x : StS} (h : StAt W C p g x) (hb : Below C W X) (hg : X.heap[g]? = W.heap[g]?) (hs : ∀ k, p k → k < W.heap.size → X.heap[k]? = W.heap[k]?) (hpq : ∀ k, p k → q k) (hq : ¬ q g) : StAt X C q g x :=
 ⟨hg.trans h.blk, h.prb.below hb, h.low, hq, (h.pes.turn hs).mono (fun k hk _ => hpq k hk), (h.res.turn hs).mono (fun k hk _ => hpq k hk)⟩
theorem StAt.turn {W : World} {C g : Nat} {p q : Nat → Prop} {x : StS} (h : StAt W C p g x) (hpq : ∀ k, p k → k < W.heap.size → q k) (hq : ¬ q g) : StAt W C q g x :=
 ⟨h.blk, h.prb, h.low, hq, h.pes.mono hpq, h.res.mono hpq⟩
theorem PlSt.to {W : World} {B g : Nat} {p q : Nat → Prop} {x : StS} {m : MsS} {ds : List Dom} {r : Rul} (h : PlSt W B p g x m ds r) (hpq : ∀ k, p k → k < W.heap.size → q k) (hq : ¬ q g) : PlSt W B q g x m ds r := by
 obtain ⟨C, hC, hl⟩ := h.s
 have hgw := h.lt
 refine ⟨⟨C, hC.turn hpq hq, fun k hk => hpq k (hl k hk) (by have := hC.low; omega)⟩, h.ok, h.say, h.req, h.eP, h.eQ, h.mx.mono hpq, fun k hk => hpq k (h.low k hk) (by have := h.le; omega), h.val⟩
theorem PlSt.turn {W X : World} {B g : Nat} {p : Nat → Prop} {x : StS} {m : MsS} {ds : List Dom} {r : Rul} (h : PlSt W B p g x m ds r) (hb : Below 0 W X) (hs : ∀ k, k = g ∨ p k → k < W.heap.size → X.heap[k]? = W.heap[k]?) : PlSt X B p g x m ds r := by
 obtain ⟨C, hC, hl⟩ := h.s
 have hgw := h.lt
 have hbC : Below C W X := ⟨hb.os, hb.tape, hb.output, hb.size, fun k hk => hs k (.inr (hl k hk)) (by have := hC.low; omega)⟩
 have hbB : Below B W X := ⟨hb.os, hb.tape, hb.output, hb.size, fun k hk => hs k (.inr (h.low k hk)) (by have := h.le; omega)⟩
 exact ⟨⟨C, hC.sub hbC (hs g (.inl rfl) hgw) (fun k hk hlt => hs k (.inr hk) hlt) (fun _ hk => hk) hC.no, hl⟩, h.ok, h.say, h.req, h.eP, h.eQ, h.mx.sub hbB (fun k hk hlt => hs k (.inr hk) hlt) (fun _ hk => hk), h.low, h.val⟩
theorem PlSt.split {w W : World} {B g : Nat} {p : Nat → Prop} {x : StS} {m : MsS} {ds : List Dom} {r : Rul} (h : PlSt w B p g x m ds r) (hb : Below w.heap.size w W) : PlSt W B (sp p w.heap.size W.heap.size) g x m ds r :=
 (h.to (q := sp p w.heap.size W.heap.size) (fun _ hk hlt => ⟨hk, .inl hlt⟩) (sp_not h.no _ _)).keep hb
theorem sp_same {W X : World} {p : Nat → Prop} {n n1 : Nat} (hb : Below n W X) (hs : ∀ k, n1 ≤ k → k < W.heap.size → X.heap[k]? = W.heap[k]?) : ∀ k, sp p n n1 k → k < W.heap.size → X.heap[k]? = W.heap[k]? := by
 intro k hk hlt
 rcases hk.2 with h | h
 ·exact hb.block k h
 ·exact hs k h hlt
structure Mid (n n1 : Nat) (W X : World) : Prop where
 below : Below n W X
 new : ∀ k, n1 ≤ k → k < W.heap.size → X.heap[k]? = W.heap[k]?
theorem Mid.refl (n n1 : Nat) (W : World) : Mid n n1 W W := ⟨Below.refl _ _, fun _ _ _ => rfl⟩
theorem Mid.cell {n n1 b : Nat} {W X : World} (h : Mid n n1 W X) (h1 : n ≤ b) (h2 : b < n1) (o : Nat) (v : Value) : Mid n n1 W (X.setCell ⟨b, o, none⟩ v) :=
 ⟨h.below.setCell (p := ⟨b, o, none⟩) h1 v, fun k hk hlt => by rw [Below.heap_setCell _ _ _ _ (fun e => by dsimp only at e; omega)]; exact h.new k hk hlt⟩
theorem Mid.st {n n1 g C : Nat} {p : Nat → Prop} {W X : World} {x : StS} (h : Mid n n1 W X) (hS : StAt W C (sp p n n1) g x) (hg : g < n) {q : Nat → Prop} (hq : ∀ k, sp p n n1 k → q k) (hqg : ¬ q g) : StAt X C q g x :=
 hS.sub (h.below.mono (by have := hS.low; omega)) (h.below.block g hg) (sp_same h.below h.new) hq hqg
theorem Mid.ms {n n1 B : Nat} {p : Nat → Prop} {W X : World} {m : MsS} {ds : List Dom} {r : Rul} (h : Mid n n1 W X) (hM : MsX W B (sp p n n1) m ds r) (hB : B ≤ n) {q : Nat → Prop} (hq : ∀ k, sp p n n1 k → q k) : MsX X B q m ds r :=
 hM.sub (h.below.mono hB) (sp_same h.below h.new) hq
theorem PlSt.mid {n n1 g B : Nat} {p : Nat → Prop} {W X : World} {x : StS} {m : MsS} {ds : List Dom} {r : Rul} (h : PlSt W B (sp p n n1) g x m ds r) (hm : Mid n n1 W X) (hg : g < n) : PlSt X B (sp p n n1) g x m ds r :=
 h.turn (hm.below.mono (Nat.zero_le _)) (fun k hk hlt => hk.elim (fun e => hm.below.block k (by omega)) (fun hk => sp_same hm.below hm.new k hk hlt))
def DoPost (B : Nat) (p : Nat → Prop) (g : Nat) (ds : List Dom) (r : Rul) (w : World) (e : Ending) (w' : World) : Prop := ∃ (x' : StS) (m' : MsS), e = .returned (.tuple #[m'.val, .bool true]) ∧ PlSt w' B p g x' m' ds r ∧ w.grownBy w' (some g)
theorem PlSt.packed {W W' : World} {B g : Nat} {p p' : Nat → Prop} {x x' : StS} {m m' : MsS} {ds : List Dom} {r : Rul} {l : Chs} (h : PlSt W B p g x m ds r) (hS : ∃ C, StAt W' C p' g x' ∧ ∀ k, k < C → p' k) (hO : StOk x') (h1 : x'.ds = x.ds) (h2 : x'.r = x.r) (h3 : x'.P = (pkF x.ds x.r x.P l).1) (h4 : x'.Q = x.Q) (h5 : m'.P = (pkF ds r m.P l).1) (h6 : m'.Q = m.Q) (hM : MsX W' B p' m' ds r) (hpp : ∀ k, k < B → p' k) : PlSt W' B p' g x' m' ds r :=
 ⟨hS, hO, by rw [h1]; exact h.say, by rw [h2]; exact h.req, by rw [h3, h5, pk_say _ _ _ h.say, h.req, h.eP], by rw [h4, h6]; exact h.eQ, hM, hpp, h.val⟩
theorem PlSt.refuted {W W' : World} {B g : Nat} {p p' : Nat → Prop} {x x' : StS} {m m' : MsS} {ds : List Dom} {r : Rul} {y : Prv} (h : PlSt W B p g x m ds r) (hS : ∃ C, StAt W' C p' g x' ∧ ∀ k, k < C → p' k) (hO : StOk x') (h1 : x'.ds = x.ds) (h2 : x'.r = x.r) (h3 : x'.P = x.P) (h4 : x'.Q = (rfF x.ds x.Q y).1) (h5 : m'.P = m.P) (h6 : m'.Q = (rfF ds m.Q y).1) (hM : MsX W' B p' m' ds r) (hpp : ∀ k, k < B → p' k) : PlSt W' B p' g x' m' ds r :=
 ⟨hS, hO, by rw [h1]; exact h.say, by rw [h2]; exact h.req, by rw [h3, h5]; exact h.eP, by rw [h4, h6, rf_say _ _ h.say, h.eQ], hM, hpp, h.val⟩
theorem gb_below {w W X : World} {g : Nat} (h : w.grownBy W (some g)) (hb : Below w.heap.size W X) : w.grownBy X (some g) :=
 ⟨hb.os.trans h.os, hb.tape.trans h.tape, hb.output.trans h.output, Nat.le_trans h.size hb.size, fun k hk hne => (hb.block k hk).trans (h.block k hk hne)⟩
theorem gb_grown {w W X : World} {g : Nat} (h : w.grownBy W (some g)) (hg : W.grownBy X (some g)) : w.grownBy X (some g) :=
 ⟨hg.os.trans h.os, hg.tape.trans h.tape, hg.output.trans h.output, Nat.le_trans h.size hg.size, fun k hk hne => (hg.block k (Nat.lt_of_lt_of_le hk h.size) hne).trans (h.block k hk hne)⟩
theorem gb3 {w w1 W2 X : World} {g n1 : Nat} (hb : Below w.heap.size w w1) (hg : w1.grownBy W2 (some g)) (hm : Mid w.heap.size n1 W2 X) : w.grownBy X (some g) :=
 gb_below (gb_grown (grown_any_of hb _) hg) hm.below
theorem gb_same {w X : World} {g : Nat} (h : w.grownBy X (some g)) : ∀ k, k ≠ g → k < w.heap.size → X.heap[k]? = w.heap[k]? := fun k hne hk => h.block k hk (fun e => hne (Option.some.inj e))
theorem copy_any (B : Nat) (p : Nat → Prop) (g : Nat) (x : StS) (w : World) (hS : StAt w B p g x) : Calls Tryz.prog 26 #[.pointer (some ⟨g, 0, none⟩)] w fun e w' => e = .returned (.pointer (some ⟨w.heap.size, 0, none⟩)) ∧ w' = w.alloc (.cells x.cells.toArray 110) := by
 have HMI := Lib.hid (missing_any g x.cells w hS.blk rfl)
 have hb := hS.blk
 have gl := hb.lt
 have c0 := hb.cell (i := 0) rfl
 have c1 := hb.cell (i := 1) rfl
 have c2 := hb.cell (i := 2) rfl
 have c3 := hb.cell (i := 3) rfl
 have c4 := hb.cell (i := 4) rfl
 have c5 := hb.cell (i := 5) rfl
 have c6 := hb.cell (i := 6) rfl
 have c7 := hb.cell (i := 7) rfl
 have c8 := hb.cell (i := 8) rfl
 have c9 := hb.cell (i := 9) rfl
 have c10 := hb.cell (i := 10) rfl
 have c11 := hb.cell (i := 11) rfl
 have c12 := hb.cell (i := 12) rfl
 have c13 := hb.cell (i := 13) rfl
 have c14 := hb.cell (i := 14) rfl
 clear hb hS
 go_enter Tryz.func26, Tryz.ntmps26
 go_wp2_with fail
 refine HMI.out.mono ?_
 rintro e W1 ⟨rfl, rfl⟩
 go_wp2_with fail
 go_ret
 exact ⟨rfl, rfl⟩
theorem do0_any (B : Nat) (p : Nat → Prop) (g : Nat) (x : StS) (m : MsS) (a : Acd) (w : World) (ds : List Dom) (r : Rul) (hP : PlSt w B p g x m ds r) (hnew : ∀ k, w.heap.size ≤ k → p k) (hk : a.kind = 0) (hn : a.ch.len ≤ 20) (hl : RowX 2 chC w p a.ch.adr a.ch.len a.ch.chs) :
  Calls Tryz.prog 25 #[.pointer (some ⟨g, 0, none⟩), m.val, a.val] w (DoPost B p g ds r w) := by
 obtain ⟨kind, ch, pr, ta, tn, tc, ts⟩ := a
 dsimp only at *
 obtain ⟨p4, hp4⟩ : ∃ q, q = w.heap.size := ⟨_, rfl⟩
 obtain ⟨p5, hp5⟩ : ∃ q, q = w.heap.size + 1 := ⟨_, rfl⟩
 obtain ⟨p6, hp6⟩ : ∃ q, q = w.heap.size + 1 + 1 := ⟨_, rfl⟩
 obtain ⟨V0, hV0⟩ : ∃ V, V = ((w.alloc (.cells #[.slice m.s.ad m.s.nd m.s.cd, .slice m.s.rs.a0 m.s.rs.n0 m.s.rs.c0, .slice m.s.rs.a1 m.s.rs.n1 m.s.rs.c1, .slice m.s.rs.a2 m.s.rs.n2 m.s.rs.c2, .slice m.pa m.pn m.pc, .slice m.qa m.qn m.qc] 72)).alloc (.cells #[.int .i64 0, .slice ch.adr ch.len ch.cap, .slice pr.sa pr.sn pr.sc, .slice pr.la pr.ln pr.lc, .slice ta tn tc] 46)).alloc (.cells #[.slice none 0 0, .slice none 0 0, .slice none 0 0, .slice none 0 0, .slice none 0 0, .slice none 0 0] 72) := ⟨_, rfl⟩
 have hP0 : Hp w w V0 [.blk p4 72 [.slice m.s.ad m.s.nd m.s.cd, .slice m.s.rs.a0 m.s.rs.n0 m.s.rs.c0, .slice m.s.rs.a1 m.s.rs.n1 m.s.rs.c1, .slice m.s.rs.a2 m.s.rs.n2 m.s.rs.c2, .slice m.pa m.pn m.pc, .slice m.qa m.qn m.qc], .blk p5 46 [.int .i64 0, .slice ch.adr ch.len ch.cap, .slice pr.sa pr.sn pr.sc, .slice pr.la pr.ln pr.lc, .slice ta tn tc], .blk p6 72 [.slice none 0 0, .slice none 0 0, .slice none 0 0, .slice none 0 0, .slice none 0 0, .slice none 0 0]] [] := by
  have h := (((Hp.start w).alloc [.slice m.s.ad m.s.nd m.s.cd, .slice m.s.rs.a0 m.s.rs.n0 m.s.rs.c0, .slice m.s.rs.a1 m.s.rs.n1 m.s.rs.c1, .slice m.s.rs.a2 m.s.rs.n2 m.s.rs.c2, .slice m.pa m.pn m.pc, .slice m.qa m.qn m.qc] 72).alloc [.int .i64 0, .slice ch.adr ch.len ch.cap, .slice pr.sa pr.sn pr.sc, .slice pr.la pr.ln pr.lc, .slice ta tn tc] 46).alloc [.slice none 0 0, .slice none 0 0, .slice none 0 0, .slice none 0 0, .slice none 0 0, .slice none 0 0] 72
  simp only [World.size_alloc] at h
  rw [hV0, hp4, hp5, hp6]; exact h
 have HPL := Lib.hid hP
 have HNW := Lib.hid hnew
 clear hnew
 have HP0 := Lib.hid hP0
 obtain ⟨i0, hi, hz0, hz1, hz2⟩ := info_parts ch_info
 subst hk
 obtain ⟨cA, n, cc, l⟩ := ch
 dsimp only at *
 have HL0 := Lib.hid ((hl.keep (by decide) hP0.below).rowS (by decide))
 have HLX := Lib.hid (hl.mono (q := fun k => p k ∧ k < w.heap.size) (by decide) (fun k hk hlt => ⟨hk, hlt⟩))
 have HLL : Hid (l.length = n) := Lib.hid hl.1
 have q5 := hP0.c 1 0 rfl rfl
 have q6 := hP0.c 1 1 rfl rfl
 have ql := hP0.lt 1 rfl
 have hgw := hP.lt
 have HP6 := Lib.hid hp6
 unfold MsS.val Acd.val
 dsimp only
 clear hP0 hP hl
 go_enter Tryz.func25, Tryz.ntmps25
 go_upto_region 1 with fail
 rw [← hV0, ← hp6, ← hp5, ← hp4]
 clear hV0 hp4 hp5 hp6
 go_upto_region 4 with (at_builtin; refine wpList_append_rowR rfl _ _ 41 rfl (f := chC) (by decide) chC_one V0.heap.size 91 i0 (.agg #[.int .i64 0, .int .i64 0]) 16 Tryz.underlying41 hi hz0 hz1 hz2 rfl _ 0 [] rfl (World.ownsRow_nil _ _ _ _) cA n cc l V0.heap.size rfl HL0.out (by unfold maxLen; omega) (by omega) (Nat.le_refl _) ?_; intro v1 w1 hown hgrow hat; rw [Nat.zero_add, List.nil_append] at hown; obtain ⟨vA, vc, rfl, _⟩ := own_formS (by decide) hown; have HG1 := Lib.hid (HP0.out.pushRow ((Below.refl _ _).grown hgrow (Nat.le_refl _) (fun g hg => by cases hg)) hown); clear hown hgrow hat)
 have hG1 := HG1.out
 have hPL1 := HPL.out.split hG1.below
 obtain ⟨C, hS1, hCl⟩ := hPL1.s
 have HCL0 := Lib.hid (And.intro hCl hPL1.low)
 have hrow : RowS 2 chC w1 w1.heap.size vA n l := by
  have hr := hG1.row 3 rfl
  rw [← HLL.out] at hr ⊢
  exact rowS_own (by decide) hr
 have hPK := pack_any C (sp p w.heap.size w1.heap.size) g x vA n vc w1 l hS1 HPL.out.ok (fun k hk => ⟨HNW.out k (Nat.le_trans hG1.below.size hk), .inr hk⟩) hS1.hdl (by omega) hrow
 obtain ⟨N, hN⟩ : ∃ N, N = (pkF ds r m.P l).2 := ⟨_, rfl⟩
 have hN2 : (pkF x.ds x.r x.P l).2 = N := by rw [hN, pk_say _ _ _ HPL.out.say, HPL.out.req, HPL.out.eP]
 rw [hN2] at hPK
 have HPK := Lib.hid hPK
 have HN := Lib.hid hN
 have HM1 := Lib.hid hPL1.mx
 have HB6 : Hid (w.heap.size ≤ p6 ∧ p6 < w1.heap.size) := Lib.hid ⟨by rw [HP6.out]; omega, hG1.lt 2 rfl⟩
 have HOB : Hid (∀ b o, vA = some ⟨b, o, none⟩ → b < w1.heap.size) := Lib.hid (fun b o e => Ent.lt (e := .row (.slice vA n vc) 91 2 n (flat 2 chC l)) (hG1.row 3 rfl) (by rw [e]; rfl))
 have HCS : Hid ((flat 2 chC l).length = n * 2) := Lib.hid (by rw [flat_lenR, HLL.out])
 generalize flat 2 chC l = fl at *
 clear hG1 hS1 hCl hPL1 hrow hPK hN hN2 q5 q6 ql HP0 HL0 HP6
 go_wp2_with fail
 refine HPK.out.mono ?_
 rintro e W2 hpost
 obtain ⟨x2, rfl, hS2, hO2, hds2, hr2, hP2, hQ2, hg2⟩ := hpost
 obtain ⟨v, hvs, hgv, hH2⟩ := HG1.out.older hg2 hgw
 have HH2 := Lib.hid hH2
 have HVS := Eqn.mk hvs
 have HX2 := Lib.hid (And.intro hS2 (And.intro hO2 (And.intro hds2 (And.intro hr2 (And.intro hP2 hQ2)))))
 have HM2 := Lib.hid (HM1.out.grown (sp_not HPL.out.no _ _) HPL.out.le hg2)
 have HG2 := Lib.hid hg2
 clear hS2 hO2 hds2 hr2 hP2 hQ2 hg2 hvs hgv hH2 HPK HM1
 go_wp2_with fail
 go_loopw [10] (fun i wr => ∃ (k : Nat) (cs : List Value), k ≤ n ∧ i = .int .i64 k ∧ cs.length = n * 2 ∧ Hp v v wr [.blk p4 72 [.slice m.s.ad m.s.nd m.s.cd, .slice m.s.rs.a0 m.s.rs.n0 m.s.rs.c0, .slice m.s.rs.a1 m.s.rs.n1 m.s.rs.c1, .slice m.s.rs.a2 m.s.rs.n2 m.s.rs.c2, .slice m.pa m.pn m.pc, .slice m.qa m.qn m.qc], .blk p5 46 [.int .i64 0, .slice cA n cc, .slice pr.sa pr.sn pr.sc, .slice pr.la pr.ln pr.lc, .slice ta tn tc], .blk p6 72 [.slice none 0 0, .slice none 0 0, .slice none 0 0, .slice none 0 0, .slice none 0 0, .slice none 0 0], .row (.slice vA n vc) 91 2 n cs] [] ∧ Mid w.heap.size w1.heap.size W2 wr) (fun i _ => n - (intOf i).toNat)
 case atStart => exact ⟨0, _, Nat.zero_le _, rfl, HCS.out, HH2.out, Mid.refl _ _ _⟩
 case round =>
  clear HH2
  obtain ⟨k, cs, hk, rfl, hcs, hP, hM⟩ := hrel
  have HP := Lib.hid hP
  have HMD := Lib.hid hM
  by_cases hlt : k < n
  ·have j0 : (k : Int) < (n : Int) := by omega
   obtain ⟨z, hz⟩ : ∃ z, cs[k * 2 + 1]? = some z := ⟨_, List.getElem?_eq_getElem (by omega)⟩
   obtain ⟨b, c', hb', z0, zf, zl⟩ := hP.at 3 (k * 2 + 1) rfl hz
   have hbl := hP.low _ (List.mem_of_getElem? (i := 3) rfl) b (by rw [hb']; rfl)
   injection hb' with hb' _ hc'
   subst hb' hc'
   have HBB : Hid (w.heap.size ≤ b ∧ b < w1.heap.size) := Lib.hid ⟨by rw [← HVS.out]; exact hbl, HOB.out b 0 rfl⟩
   have HCS2 := Eqn.mk hcs
   clear hP hz hcs hbl hM
   go_wp2_with fail
   go_roundw
   case rel => exact ⟨k + 1, cs.set (k * 2 + 1) (.int .i64 1), hlt, by go_num, by rw [List.length_set, HCS2.out], HP.out.setRow 3 (k * 2 + 1) (.int .i64 1) rfl, HMD.out.cell HBB.out.1 HBB.out.2 _ _⟩
   case measure => simp [intOf]; omega
  ·obtain rfl : k = n := by omega
   have j0 : ¬ (k : Int) < (k : Int) := by omega
   obtain ⟨W3, rfl⟩ : ∃ W3 : World, W3 = wr := ⟨_, rfl⟩
   have hBw : B ≤ w.heap.size := by have := HPL.out.le; omega
   have hM3 := hM.ms HM2.out hBw (fun _ h => h)
   have hGB := gb3 HG1.out.below HG2.out hM
   have hSM := gb_same hGB
   have hl3 : RowX 2 chC W3 (sp p w.heap.size w1.heap.size) cA k l := (HLX.out.turn (by decide) (fun j hj _ => hSM j (fun e => HPL.out.no (e ▸ hj.1)) hj.2)).mono (by decide) (fun j hj _ => ⟨hj.1, .inl hj.2⟩)
   have hRP := rpack_any B (sp p w.heap.size w1.heap.size) m cA k cc W3 ds r l hM3 (fun j hj => by have h1 := hM.below.size; have h2 := HG2.out.size; have h3 := HG1.out.below.size; exact ⟨HNW.out j (by omega), .inr (by omega)⟩) HPL.out.val HPL.out.os.1 HPL.out.os.2 (by omega) hl3
   rw [← HN.out] at hRP
   unfold MsS.val at hRP
   have HRP := Lib.hid hRP
   have HS3 := Lib.hid (hM.st HX2.out.1 hgw (fun _ h => h) (sp_not HPL.out.no _ _))
   have HB3 := Lib.hid hGB
   have q0 := HP.out.c 0 0 rfl rfl
   have q1 := HP.out.c 0 1 rfl rfl
   have q2 := HP.out.c 0 2 rfl rfl
   have q3 := HP.out.c 0 3 rfl rfl
   have q4 := HP.out.c 0 4 rfl rfl
   have q5 := HP.out.c 0 5 rfl rfl
   have ql := HP.out.lt 0 rfl
   have y1 := HP.out.c 1 1 rfl rfl
   have yl := HP.out.lt 1 rfl
   clear hP hcs hM hM3 hSM hl3 hGB hRP HMD HM2 HG2 HCS HOB HLX HG1 hBw
   go_wp2_with fail
   refine HRP.out.mono ?_
   rintro e W4 hpost
   obtain ⟨m2, rfl, hP4, hQ4, hM4, hb4⟩ := hpost
   obtain ⟨p7, hp7⟩ : ∃ q, q = W4.heap.size := ⟨_, rfl⟩
   obtain ⟨W7, hW7⟩ : ∃ V, V = W4.alloc (.cells #[.slice m2.s.ad m2.s.nd m2.s.cd, .slice m2.s.rs.a0 m2.s.rs.n0 m2.s.rs.c0, .slice m2.s.rs.a1 m2.s.rs.n1 m2.s.rs.c1, .slice m2.s.rs.a2 m2.s.rs.n2 m2.s.rs.c2, .slice m2.pa m2.pn m2.pc, .slice m2.qa m2.qn m2.qc] 72) := ⟨_, rfl⟩
   have hP7 := (HP.out.keep hb4).alloc [.slice m2.s.ad m2.s.nd m2.s.cd, .slice m2.s.rs.a0 m2.s.rs.n0 m2.s.rs.c0, .slice m2.s.rs.a1 m2.s.rs.n1 m2.s.rs.c1, .slice m2.s.rs.a2 m2.s.rs.n2 m2.s.rs.c2, .slice m2.pa m2.pn m2.pc, .slice m2.qa m2.qn m2.qc] 72
   rw [show ([.slice m2.s.ad m2.s.nd m2.s.cd, .slice m2.s.rs.a0 m2.s.rs.n0 m2.s.rs.c0, .slice m2.s.rs.a1 m2.s.rs.n1 m2.s.rs.c1, .slice m2.s.rs.a2 m2.s.rs.n2 m2.s.rs.c2, .slice m2.pa m2.pn m2.pc, .slice m2.qa m2.qn m2.qc] : List Value).toArray = #[.slice m2.s.ad m2.s.nd m2.s.cd, .slice m2.s.rs.a0 m2.s.rs.n0 m2.s.rs.c0, .slice m2.s.rs.a1 m2.s.rs.n1 m2.s.rs.c1, .slice m2.s.rs.a2 m2.s.rs.n2 m2.s.rs.c2, .slice m2.pa m2.pn m2.pc, .slice m2.qa m2.qn m2.qc] from rfl, ← hW7, ← hp7] at hP7
   have hb7 : Below W4.heap.size W4 W7 := by rw [hW7]; exact (Below.refl _ _).alloc (Nat.le_refl _) _
   have hb37 : Below W3.heap.size W3 W7 := hb4.trans (hb7.mono hb4.size)
   have hPL7 : PlSt W7 B (sp p w.heap.size w1.heap.size) g x2 m2 ds r := HPL.out.packed ⟨C, HS3.out.keep hb37, HCL0.out.1⟩ HX2.out.2.1 HX2.out.2.2.1 HX2.out.2.2.2.1 HX2.out.2.2.2.2.1 HX2.out.2.2.2.2.2 hP4 hQ4 (hM4.keep hb7) HCL0.out.2
   obtain ⟨C7, hC7, _⟩ := hPL7.s
   have HP7 := Lib.hid hP7
   have HL7 := Lib.hid hPL7
   have HB7 := Lib.hid (gb_below HB3.out (hb37.mono HB3.out.size))
   have HTR : Hid ((decide (x2.P = m2.P) && decide (x2.Q = m2.Q)) = true) := Lib.hid (by rw [hPL7.eP, hPL7.eQ, decide_eq_true rfl, decide_eq_true rfl]; rfl)
   have HAG := Lib.hid (agrees_any C7 _ g x2 m2 ds r W7.drew (hC7.keep ((Below.refl _ _).drew)) hPL7.ok (hPL7.mx.at.keep ((Below.refl _ _).drew)))
   unfold MsS.val at *
   clear hP4 hQ4 hM4 hb4 hP7 hb7 hb37 hPL7 hC7 HP HRP HB3 q0 q1 q2 q3 q4 q5 ql y1 yl HX2 HS3
   go_upto_region 10 with fail
   rw [← hW7, ← hp7]
   clear hW7 hp7
   have HC7 := Lib.hid (fun (X : World) (hb : Below W7.heap.size W7 X) => (⟨(HP7.out.keep hb).c 4 0 rfl rfl, (HP7.out.keep hb).c 4 1 rfl rfl, (HP7.out.keep hb).c 4 2 rfl rfl, (HP7.out.keep hb).c 4 3 rfl rfl, (HP7.out.keep hb).c 4 4 rfl rfl, (HP7.out.keep hb).c 4 5 rfl rfl⟩ : X.cell? ⟨p7, 0, none⟩ = some (.slice m2.s.ad m2.s.nd m2.s.cd) ∧ X.cell? ⟨p7, 1, none⟩ = some (.slice m2.s.rs.a0 m2.s.rs.n0 m2.s.rs.c0) ∧ X.cell? ⟨p7, 2, none⟩ = some (.slice m2.s.rs.a1 m2.s.rs.n1 m2.s.rs.c1) ∧ X.cell? ⟨p7, 3, none⟩ = some (.slice m2.s.rs.a2 m2.s.rs.n2 m2.s.rs.c2) ∧ X.cell? ⟨p7, 4, none⟩ = some (.slice m2.pa m2.pn m2.pc) ∧ X.cell? ⟨p7, 5, none⟩ = some (.slice m2.qa m2.qn m2.qc)))
   have HDR := Lib.hid ((Below.refl W7.heap.size W7).drew)
   obtain ⟨q0, q1, q2, q3, q4, q5⟩ := HC7.out _ (Below.refl _ _)
   have ql := HP7.out.lt 4 rfl
   go_wp2_with fail
   refine Lx.region (C := fun X => X.cell? ⟨p7, 0, none⟩ = some (.slice m2.s.ad m2.s.nd m2.s.cd) ∧ X.cell? ⟨p7, 1, none⟩ = some (.slice m2.s.rs.a0 m2.s.rs.n0 m2.s.rs.c0) ∧ X.cell? ⟨p7, 2, none⟩ = some (.slice m2.s.rs.a1 m2.s.rs.n1 m2.s.rs.c1) ∧ X.cell? ⟨p7, 3, none⟩ = some (.slice m2.s.rs.a2 m2.s.rs.n2 m2.s.rs.c2) ∧ X.cell? ⟨p7, 4, none⟩ = some (.slice m2.pa m2.pn m2.pc) ∧ X.cell? ⟨p7, 5, none⟩ = some (.slice m2.qa m2.qn m2.qc)) (hs := [0]) (by kernel_rfl) (by kernel_rfl) (HC7.out _ HDR.out) ?_
   repeat' (first | ((first | refine Lx.ln (fun K hK => ?_) | (first | (refine Lx.lp (v := ?_) ?_ (fun K hK => ?_); rotate_left 1; intro w' hCw; try dsimp only at hCw) | (refine Lx.lr (v := ?_) ?_ (fun K hK => ?_); rotate_left 1)); go_simp; first | done | with_reducible rfl); go_simp; refine hK _ ?_; clear hK K) | (refine Lx.le (fun K hK => ?_); go_simp; (first | (go_at_call 27; refine HAG.out.mono ?_; rintro e W8 ⟨rfl, hb8⟩; have hb8' : Below W7.heap.size W7 W8 := HDR.out.trans (hb8.mono HDR.out.size); have HB8 := Lib.hid hb8'; have HP8 := Lib.hid (HP7.out.keep hb8'); have z0 := HP8.out.c 2 0 rfl rfl; have z1 := HP8.out.c 2 1 rfl rfl; have z2 := HP8.out.c 2 2 rfl rfl; have z3 := HP8.out.c 2 3 rfl rfl; have z4 := HP8.out.c 2 4 rfl rfl; have z5 := HP8.out.c 2 5 rfl rfl; have zf := HP8.out.f 2 rfl; have zl := HP8.out.lt 2 rfl; rw [HTR.out]; clear hb8 hb8') | skip); refine hK _ _ (by first | with_reducible exact HC7.out _ HB8.out | (have hX := ((((((HP8.out.set 2 0 (.slice m2.s.ad m2.s.nd m2.s.cd) rfl).set 2 1 (.slice m2.s.rs.a0 m2.s.rs.n0 m2.s.rs.c0) rfl).set 2 2 (.slice m2.s.rs.a1 m2.s.rs.n1 m2.s.rs.c1) rfl).set 2 3 (.slice m2.s.rs.a2 m2.s.rs.n2 m2.s.rs.c2) rfl).set 2 4 (.slice m2.pa m2.pn m2.pc) rfl).set 2 5 (.slice m2.qa m2.qn m2.qc) rfl); exact ⟨hX.c 4 0 rfl rfl, hX.c 4 1 rfl rfl, hX.c 4 2 rfl rfl, hX.c 4 3 rfl rfl, hX.c 4 4 rfl rfl, hX.c 4 5 rfl rfl⟩)) ?_; clear hK K))
   all_goals (refine Lx.lex_nil ?_)
   go_wp2_with fail
   have hX := ((((((HP8.out.set 2 0 (.slice m2.s.ad m2.s.nd m2.s.cd) rfl).set 2 1 (.slice m2.s.rs.a0 m2.s.rs.n0 m2.s.rs.c0) rfl).set 2 2 (.slice m2.s.rs.a1 m2.s.rs.n1 m2.s.rs.c1) rfl).set 2 3 (.slice m2.s.rs.a2 m2.s.rs.n2 m2.s.rs.c2) rfl).set 2 4 (.slice m2.pa m2.pn m2.pc) rfl).set 2 5 (.slice m2.qa m2.qn m2.qc) rfl)
   refine bodyPost_ret (v := .tuple #[.agg #[.slice m2.s.ad m2.s.nd m2.s.cd, .slice m2.s.rs.a0 m2.s.rs.n0 m2.s.rs.c0, .slice m2.s.rs.a1 m2.s.rs.n1 m2.s.rs.c1, .slice m2.s.rs.a2 m2.s.rs.n2 m2.s.rs.c2, .slice m2.pa m2.pn m2.pc, .slice m2.qa m2.qn m2.qc], .bool true]) (by simp [results, Tryz.results25, go_sem, hX.c 2 0 rfl rfl, hX.c 2 1 rfl rfl, hX.c 2 2 rfl rfl, hX.c 2 3 rfl rfl, hX.c 2 4 rfl rfl, hX.c 2 5 rfl rfl]) rfl ?_
   have hMd := (((((((Mid.refl w.heap.size w1.heap.size W8).cell HB6.out.1 HB6.out.2 0 (.slice m2.s.ad m2.s.nd m2.s.cd)).cell HB6.out.1 HB6.out.2 1 (.slice m2.s.rs.a0 m2.s.rs.n0 m2.s.rs.c0)).cell HB6.out.1 HB6.out.2 2 (.slice m2.s.rs.a1 m2.s.rs.n1 m2.s.rs.c1)).cell HB6.out.1 HB6.out.2 3 (.slice m2.s.rs.a2 m2.s.rs.n2 m2.s.rs.c2)).cell HB6.out.1 HB6.out.2 4 (.slice m2.pa m2.pn m2.pc)).cell HB6.out.1 HB6.out.2 5 (.slice m2.qa m2.qn m2.qc))
   exact ⟨x2, m2, rfl, ((HL7.out.keep HB8.out).mid hMd hgw).to (fun k hk _ => hk.1) HPL.out.no, gb_below (gb_below HB7.out (HB8.out.mono HB7.out.size)) hMd.below⟩
end Go.Proofs.YtdpbbhbegehcjaaGreatDoor
