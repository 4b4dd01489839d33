/- CONTAIN PLAYS: for every problem and every list of calls, the law ContainPlays returns true, and the input reads as it did. Conditions: none beyond the card's own. -/
import Derived.Test.YtdpbbhbegehcjaaGreatDoorPla23
import Derived.Test.YtdpbbhbegehcjaaGreatDoorPla27
import Derived.Test.YtdpbbhbegehcjaaGreatDoorPla28
set_option maxRecDepth 100000
set_option maxHeartbeats 8000000
namespace Go.Proofs.YtdpbbhbegehcjaaGreatDoor
open Go.RowKit Go.Shelf Go.ChangeShapes Go.WideShapes Go.ChangeAt Go.Deep Go.Joins
structure Acd.In (B : Nat) (w : World) (a : Acd) : Prop where
 ch : RowX 2 chC w (fun k => k < B) a.ch.adr a.ch.len a.ch.chs
 cl : a.ch.len ≤ 20
 pr : a.pr.At w (fun k => k < B)
 sn : a.pr.sn ≤ 20
 t : Row1 intV w w.heap.size a.ta a.tn a.ts
 tl : a.tn ≤ 20
theorem Acd.ins {w : World} {a : Acd} (h : a.Raw w) (hs : actSm a = true) : a.In w.heap.size w := by
 have ht := Acd.tn_le hs
 unfold actSm prfSm nsmF at hs
 simp only [Bool.and_eq_true, decide_eq_true_eq, List.all_eq_true] at hs
 obtain ⟨h0, _, h1, h2, h3⟩ := hs
 refine ⟨h.ch.rowX (fun k hk => hk), h0, ⟨(rowS_1 h.s).rowX (fun k hk => hk), h.l.rowX (fun k hk => hk), fun m hm => ⟨(h.m m hm).rowX (fun k hk => hk), ?_⟩, by omega, by have := h.l.1; omega⟩, h1, h.t, ht⟩
 have := h3 m hm
 unfold lemSm at this
 have := of_decide_eq_true this
 omega
theorem Acd.In.keep {B : Nat} {w X : World} {a : Acd} (h : a.In B w) (hb : Below w.heap.size w X) : a.In B X :=
 ⟨h.ch.keep (by decide) hb, h.cl, h.pr.keep hb, h.sn, h.t.keep hb, h.tl⟩
theorem do_any (B D : Nat) (p : Nat → Prop) (g : Nat) (x : StS) (m : MsS) (a : Acd) (w : World) (ds : List Dom) (r : Rul) (hP : PlSt w B p g x m ds r) (hnew : ∀ k, w.heap.size ≤ k → p k) (ha : a.In D w) (hD : ∀ k, k < D → p k) :
  Calls Tryz.prog 25 #[.pointer (some ⟨g, 0, none⟩), m.val, a.val] w (DoPost B p g ds r w) := by
 by_cases h0 : a.kind = 0
 ·exact do0_any B p g x m a w ds r hP hnew h0 ha.cl (ha.ch.mono (by decide) (fun k hk _ => hD k hk))
 ·by_cases h1 : a.kind = 1
  ·exact do1_any B p g x m a w ds r hP hnew h1 ha.sn (ha.pr.mono (fun k hk _ => hD k hk))
  ·exact do2_any B p g x m a w ds r hP hnew h0 h1 ha.tl ha.t
def k2 (g q : Nat) : Nat → Prop := fun k => k ≠ g ∧ k ≠ q
theorem MsX.turn2 {W X : World} {B : Nat} {p q : Nat → Prop} {m : MsS} {ds : List Dom} {r : Rul} (h : MsX W B p m ds r) (hb : Below B W X) (hs : ∀ k, p k → k < W.heap.size → X.heap[k]? = W.heap[k]?) (hpq : ∀ k, p k → k < X.heap.size → q k) : MsX X B q m ds r :=
 MsX.mono (p := p) (h.sub hb hs (fun _ hk => hk)) hpq
theorem PlSt.copied {w W : World} {B g q : Nat} {x : StS} {m : MsS} {ds : List Dom} {r : Rul} (h : PlSt w B (k2 g q) g x m ds r) (hg : (w.alloc (.cells x.cells.toArray 110)).grownBy W (some g)) (hB : B ≤ w.heap.size) : PlSt W B (k2 w.heap.size q) w.heap.size x m ds r := by
 obtain ⟨C, hC, hCp⟩ := h.s
 have hgl := h.lt
 have hsz : (w.alloc (.cells x.cells.toArray 110)).heap.size = w.heap.size + 1 := by simp
 have hal : ∀ k, k < w.heap.size → (w.alloc (.cells x.cells.toArray 110)).heap[k]? = w.heap[k]? := fun k hk => ((Below.refl w.heap.size w).alloc (Nat.le_refl _) _).block k hk
 have hsm : ∀ k, k2 g q k → k < w.heap.size → W.heap[k]? = w.heap[k]? := fun k hk hlt => (gb_same hg k hk.1 (by rw [hsz]; omega)).trans (hal k hlt)
 have hbl : Below g w W := ⟨hg.os, hg.tape, hg.output, by have := hg.size; omega, fun k hk => (gb_same hg k (by omega) (by rw [hsz]; omega)).trans (hal k (by omega))⟩
 have hCg := hC.low
 have hsm2 : ∀ k, k2 g q k ∧ k < w.heap.size → k < w.heap.size → W.heap[k]? = w.heap[k]? := fun k hk hlt => hsm k hk.1 hlt
 have hto : ∀ k, k2 g q k ∧ k < w.heap.size → k < W.heap.size → k2 w.heap.size q k := fun k hk _ => ⟨by omega, hk.1.2⟩
 have hin : ∀ k, k2 g q k → k < w.heap.size → k2 g q k ∧ k < w.heap.size := fun k hk hlt => ⟨hk, hlt⟩
 have hmx := h.mx.mono (q := fun k => k2 g q k ∧ k < w.heap.size) hin
 have hle := h.le
 refine ⟨⟨C, ⟨?_, hC.prb.below (hbl.mono hCg), by omega, fun h => h.1 rfl, ((hC.pes.mono hin).turn hsm2).mono hto, ((hC.res.mono hin).turn hsm2).mono hto⟩, fun k hk => ⟨by omega, (hCp k hk).2⟩⟩, h.ok, h.say, h.req, h.eP, h.eQ, hmx.turn2 (hbl.mono hle) hsm2 hto, fun k hk => ⟨by omega, (h.low k hk).2⟩, h.val⟩
 exact (gb_same hg w.heap.size (by omega) (by rw [hsz]; omega)).trans (blk_new w x.cells 110)
theorem PlSt.setq {W : World} {B g q : Nat} {x : StS} {m : MsS} {ds : List Dom} {r : Rul} (h : PlSt W B (k2 g q) g x m ds r) (hq : q ≠ g) (o : Nat) (v : Value) : PlSt (W.setCell ⟨q, o, none⟩ v) B (k2 g q) g x m ds r :=
 h.turn ((Below.refl 0 W).setCell (p := ⟨q, o, none⟩) (Nat.zero_le _) v) (fun k hk _ => Below.heap_setCell _ _ _ _ (fun e => by dsimp only at e; rcases hk with rfl | hk; exact hq e.symm; exact hk.2 e))
theorem containPlays_walk (w : World) (hT : Tab w) (s : PrbS) (ds : List Dom) (r : Rul) (R0 : PrbAt w w.heap.size s ds r ∧ s.nd ≤ 9223372036854775807) (A : Option Addr) (n c : Nat) (xs : List Acd) (R1 : RowS 5 Acd.cell w w.heap.size A n xs ∧ (∀ x ∈ xs, x.Raw w) ∧ n ≤ 9223372036854775807) :
  Calls Tryz.prog 6 #[s.val, .slice A n c] w fun e W' => e = .returned (.bool true) ∧ Below w.heap.size w W' := by
 obtain ⟨p2, hp2⟩ : ∃ q, q = w.heap.size := ⟨_, rfl⟩
 obtain ⟨V0, hV0⟩ : ∃ V, V = w.alloc (.cells #[.slice s.ad s.nd s.cd, .slice s.rs.a0 s.rs.n0 s.rs.c0, .slice s.rs.a1 s.rs.n1 s.rs.c1, .slice s.rs.a2 s.rs.n2 s.rs.c2] 29) := ⟨_, rfl⟩
 have hP0 : Hp w w V0 [.blk p2 29 [.slice s.ad s.nd s.cd, .slice s.rs.a0 s.rs.n0 s.rs.c0, .slice s.rs.a1 s.rs.n1 s.rs.c1, .slice s.rs.a2 s.rs.n2 s.rs.c2]] [] := by
  have h := (Hp.start w).alloc [.slice s.ad s.nd s.cd, .slice s.rs.a0 s.rs.n0 s.rs.c0, .slice s.rs.a1 s.rs.n1 s.rs.c1, .slice s.rs.a2 s.rs.n2 s.rs.c2] 29
  rw [hV0, hp2]; exact h
 have HPB := Lib.hid (fun (W : World) (hb : Below w.heap.size w W) => (⟨R0.1.1.keep hb, R0.1.2.keep hb⟩ : PrbAt W W.heap.size s ds r))
 have HND := Lib.hid R0.2
 have HPW := Lib.hid R0.1
 have HSM := Lib.hid (small_any s 10 40 V0 ds r R0.2 (HPB.out V0 hP0.below))
 have HFW := Lib.hid (fun (W : World) (hb : Below w.heap.size w W) => few_any A n c 12 W xs (by decide) R1.2.2 (R1.1.keep hb) (fun x hx => (R1.2.1 x hx).keep hb))
 have HVL := Lib.hid (fun (W : World) (hb : Below w.heap.size w W) => rvalid_any s W ds r R0.2 (HPB.out W hb))
 have HKN := Lib.hid (fun (W : World) (hb : Below w.heap.size w W) => known_any W (hT.keep hb))
 have HXS := Lib.hid R1
 have HT := Lib.hid hT
 have HVQ := Lib.hid (valid_eq (ds := ds) (r := r) (fun d hd => (R0.1.1.2 d hd).1.symm))
 have HP0 := Lib.hid hP0
 have m0 := hP0.c 0 0 rfl rfl
 have m1 := hP0.c 0 1 rfl rfl
 have m2 := hP0.c 0 2 rfl rfl
 have m3 := hP0.c 0 3 rfl rfl
 have ml := hP0.lt 0 rfl
 unfold PrbS.val at *
 clear hP0 R0 R1 hT
 generalize hsm : smF ds r 10 40 = sm at *
 have HSME := Lib.hid hsm
 clear hsm
 go_enter Tryz.func6, Tryz.ntmps6
 go_upto_region 1 with fail
 rw [← hV0, ← hp2]
 clear hV0 hp2
 go_wp2_with fail
 refine HSM.out.mono ?_
 rintro e W1 ⟨rfl, hb1⟩
 have HP1 := Lib.hid (HP0.out.keep hb1)
 clear m0 m1 m2 m3 ml hb1 HP0 HSM
 cases sm with
 | false =>
  go_wp2_with fail
  refine (HKN.out _ HP1.out.below).mono ?_
  rintro e WE ⟨rfl, hbE⟩
  have HB := Lib.hid (HP1.out.keep hbE).below
  clear hbE
  go_wp2_with fail
  go_ret
  exact ⟨rfl, HB.out⟩
 | true =>
  have HF1 := Lib.hid (HFW.out W1 HP1.out.below)
  clear HFW
  generalize hfw : fewA xs 12 = fw at *
  have HFWE := Lib.hid hfw
  clear hfw
  go_wp2_with fail
  refine HF1.out.mono ?_
  rintro e W2 ⟨rfl, hb2⟩
  have HP2 := Lib.hid (HP1.out.keep hb2)
  clear hb2 HP1 HF1
  have m0 := HP2.out.c 0 0 rfl rfl
  have m1 := HP2.out.c 0 1 rfl rfl
  have m2 := HP2.out.c 0 2 rfl rfl
  have m3 := HP2.out.c 0 3 rfl rfl
  have ml := HP2.out.lt 0 rfl
  cases fw with
  | false =>
   go_wp2_with fail
   refine (HKN.out _ HP2.out.below).mono ?_
   rintro e WE ⟨rfl, hbE⟩
   have HB := Lib.hid (HP2.out.keep hbE).below
   clear hbE
   go_wp2_with fail
   go_ret
   exact ⟨rfl, HB.out⟩
  | true =>
   have HNW := Lib.hid (new_any s W2 (HT.out.keep HP2.out.below) ds r HND.out (fun d hd => by have := (smF_spec (by decide) HSME.out).2.1 d hd; omega) (HPB.out W2 HP2.out.below))
   unfold PrbS.val at HNW
   go_wp2_with fail
   refine HNW.out.mono ?_
   rintro e W4 hN
   clear m0 m1 m2 m3 ml HNW
   unfold NewPost at hN
   cases hvp : validP ds r with
   | false =>
    rw [hvp, if_neg (by decide)] at hN
    obtain ⟨rfl, hb4⟩ := hN
    have HP4 := Lib.hid (HP2.out.keep hb4)
    have hV4 := HVL.out W4 HP4.out.below
    rw [← HVQ.out, hvp] at hV4
    have HV4 := Lib.hid hV4
    clear hb4 hV4 HP2 HVL HVQ hvp
    have m0 := HP4.out.c 0 0 rfl rfl
    have m1 := HP4.out.c 0 1 rfl rfl
    have m2 := HP4.out.c 0 2 rfl rfl
    have m3 := HP4.out.c 0 3 rfl rfl
    have ml := HP4.out.lt 0 rfl
    go_wp2_with fail
    refine HV4.out.mono ?_
    rintro e W5 ⟨rfl, hb5⟩
    have HP5 := Lib.hid (HP4.out.keep hb5)
    clear m0 m1 m2 m3 ml hb5 HP4 HV4
    go_wp2_with fail
    refine (HKN.out _ HP5.out.below).mono ?_
    rintro e WE ⟨rfl, hbE⟩
    have HB := Lib.hid (HP5.out.keep hbE).below
    clear hbE
    go_wp2_with fail
    go_ret
    exact ⟨rfl, HB.out⟩
   | true =>
    rw [hvp, if_pos rfl] at hN
    obtain ⟨g, x0, rfl, hge, hSt, hOk, hds, hr, hPe, hQe, hb4⟩ := hN
    have hgw : w.heap.size ≤ g := Nat.le_trans HP2.out.below.size hge
    have hs0 := hSt (fun k => k ≠ g) (fun h => h rfl)
    have HP4 := Lib.hid (HP2.out.pushBlk hb4 hs0.blk hge)
    have hV4 := HVL.out W4 HP4.out.below
    rw [← HVQ.out, hvp] at hV4
    have HV4 := Lib.hid hV4
    have HS0 := Lib.hid (And.intro hSt (And.intro hOk (And.intro hds (And.intro hr (And.intro hPe hQe)))))
    have HGW := Lib.hid hgw
    have HVP := Lib.hid hvp
    have HGL := Lib.hid hs0.blk.lt
    clear hge hSt hOk hds hr hPe hQe hb4 hgw hs0 hV4 HP2 HVL HVQ hvp
    have m0 := HP4.out.c 0 0 rfl rfl
    have m1 := HP4.out.c 0 1 rfl rfl
    have m2 := HP4.out.c 0 2 rfl rfl
    have m3 := HP4.out.c 0 3 rfl rfl
    have ml := HP4.out.lt 0 rfl
    go_wp2_with fail
    refine HV4.out.mono ?_
    rintro e W5 ⟨rfl, hb5⟩
    have HB5 := Lib.hid hb5
    have HP5 := Lib.hid (HP4.out.keep hb5)
    clear m0 m1 m2 m3 ml hb5 HP4 HV4
    have m0 := HP5.out.c 0 0 rfl rfl
    have m1 := HP5.out.c 0 1 rfl rfl
    have m2 := HP5.out.c 0 2 rfl rfl
    have m3 := HP5.out.c 0 3 rfl rfl
    have ml := HP5.out.lt 0 rfl
    obtain ⟨p7, hp7⟩ : ∃ q, q = W5.heap.size := ⟨_, rfl⟩
    obtain ⟨W6, hW6⟩ : ∃ V, V = W5.alloc (.cells #[.slice s.ad s.nd s.cd, .slice s.rs.a0 s.rs.n0 s.rs.c0, .slice s.rs.a1 s.rs.n1 s.rs.c1, .slice s.rs.a2 s.rs.n2 s.rs.c2, .slice none 0 0, .slice none 0 0] 72) := ⟨_, rfl⟩
    have hP6 := HP5.out.alloc [.slice s.ad s.nd s.cd, .slice s.rs.a0 s.rs.n0 s.rs.c0, .slice s.rs.a1 s.rs.n1 s.rs.c1, .slice s.rs.a2 s.rs.n2 s.rs.c2, .slice none 0 0, .slice none 0 0] 72
    rw [show ([.slice s.ad s.nd s.cd, .slice s.rs.a0 s.rs.n0 s.rs.c0, .slice s.rs.a1 s.rs.n1 s.rs.c1, .slice s.rs.a2 s.rs.n2 s.rs.c2, .slice none 0 0, .slice none 0 0] : List Value).toArray = #[.slice s.ad s.nd s.cd, .slice s.rs.a0 s.rs.n0 s.rs.c0, .slice s.rs.a1 s.rs.n1 s.rs.c1, .slice s.rs.a2 s.rs.n2 s.rs.c2, .slice none 0 0, .slice none 0 0] from rfl, ← hW6, ← hp7] at hP6
    have hb6 : Below W4.heap.size W4 W6 := by rw [hW6]; exact HB5.out.alloc HB5.out.size _
    have hgp : g < p7 := by have := HGL.out; have := HB5.out.size; omega
    obtain ⟨mm, hm0⟩ : ∃ mm : MsS, mm = ⟨s, none, 0, 0, [], none, 0, 0, []⟩ := ⟨_, rfl⟩
    have hL6 : PlSt W6 w.heap.size (k2 g p7) g x0 mm ds r := by
     subst hm0
     exact ⟨⟨g, (HS0.out.1 (k2 g p7) (fun h => h.1 rfl)).keep hb6, fun k hk => ⟨by omega, by omega⟩⟩, HS0.out.2.1, HS0.out.2.2.1, HS0.out.2.2.2.1, HS0.out.2.2.2.2.1, HS0.out.2.2.2.2.2, ⟨HPW.out.below hP6.below, hP6.below.size, HND.out, RowX.nil _ _ _ _ _, fun _ h => (by cases h), RowX.nil _ _ _ _ _, fun _ h => (by cases h)⟩, fun k hk => ⟨by have := HGW.out; omega, by have := HGW.out; omega⟩, HVP.out⟩
    have hH6 : Hp w w W6 [.blk p2 29 [.slice s.ad s.nd s.cd, .slice s.rs.a0 s.rs.n0 s.rs.c0, .slice s.rs.a1 s.rs.n1 s.rs.c1, .slice s.rs.a2 s.rs.n2 s.rs.c2], .blk g 110 x0.cells, .blk p7 72 [.slice mm.s.ad mm.s.nd mm.s.cd, .slice mm.s.rs.a0 mm.s.rs.n0 mm.s.rs.c0, .slice mm.s.rs.a1 mm.s.rs.n1 mm.s.rs.c1, .slice mm.s.rs.a2 mm.s.rs.n2 mm.s.rs.c2, .slice mm.pa mm.pn mm.pc, .slice mm.qa mm.qn mm.qc]] [] := by subst hm0; exact hP6
    have HL6 := Lib.hid hL6
    have HH6 := Lib.hid hH6
    have HS7 : Hid (w.heap.size ≤ p7) := Lib.hid (by have := HGW.out; omega)
    have hn12 : n ≤ 12 := by
     have h := HFWE.out
     unfold fewA at h
     rw [Bool.and_eq_true, decide_eq_true_eq] at h
     have h2 := HXS.out.1.1
     omega
    clear hP6 hb6 hgp hL6 hH6 hm0 HP5 HB5 HS0 HGL HGW
    go_upto_region 9 with fail
    rw [← hW6, ← hp7]
    clear hW6 hp7 m0 m1 m2 m3 ml
    go_wp2_with fail
    go_loopw [5, 8, 9] (fun sv fv i wr => ∃ (k g : Nat) (x : StS) (m : MsS), k ≤ n ∧ sv = .pointer (some ⟨g, 0, none⟩) ∧ fv = .bool true ∧ i = .int .i64 k ∧ PlSt wr w.heap.size (k2 g p7) g x m ds r ∧ Hp w w wr [.blk p2 29 [.slice s.ad s.nd s.cd, .slice s.rs.a0 s.rs.n0 s.rs.c0, .slice s.rs.a1 s.rs.n1 s.rs.c1, .slice s.rs.a2 s.rs.n2 s.rs.c2], .blk g 110 x.cells, .blk p7 72 [.slice m.s.ad m.s.nd m.s.cd, .slice m.s.rs.a0 m.s.rs.n0 m.s.rs.c0, .slice m.s.rs.a1 m.s.rs.n1 m.s.rs.c1, .slice m.s.rs.a2 m.s.rs.n2 m.s.rs.c2, .slice m.pa m.pn m.pc, .slice m.qa m.qn m.qc]] []) (fun _ _ i _ => n - (intOf i).toNat)
    case atStart => exact ⟨0, g, x0, mm, Nat.zero_le _, rfl, rfl, rfl, HL6.out, HH6.out⟩
    case round =>
     clear HL6 HH6
     obtain ⟨k, g, x, m, hk, rfl, rfl, rfl, hL, hP⟩ := hrel
     have HS := Lib.hid hL
     have HP := Lib.hid hP
     by_cases hlt : k < n
     ·have j0 : (k : Int) < (n : Int) := by omega
      obtain ⟨a, ha⟩ : ∃ a, xs[k]? = some a := ⟨_, List.getElem?_eq_getElem (by rw [HXS.out.1.1]; exact hlt)⟩
      have ham := List.mem_of_getElem? ha
      have hsm : actSm a = true := by
       have h := HFWE.out
       unfold fewA at h
       rw [Bool.and_eq_true, List.all_eq_true] at h
       exact h.2 a ham
      have HIN := Lib.hid (fun (W : World) (hb : Below w.heap.size w W) => (Acd.ins (HXS.out.2.1 a ham) hsm).keep hb)
      obtain ⟨b, off, rfl, hbl, hc⟩ := (HXS.out.1.keep hP.below).2 (by omega)
      have HCL := Lib.hid (fun (W : World) (hb : Below w.heap.size w W) => (by
       obtain ⟨b', off', e', hbl', hc'⟩ := (HXS.out.1.keep hb).2 (by omega)
       injection e' with e'
       injection e' with e1 e2
       subst e1 e2
       exact ⟨hc' k a ha 0 (by decide), hc' k a ha 1 (by decide), hc' k a ha 2 (by decide), hc' k a ha 3 (by decide), hbl'⟩ : W.cell? ⟨b, off + k * 5, none⟩ = some (.int .i64 a.kind) ∧ W.cell? ⟨b, off + k * 5 + 1, none⟩ = some (.slice a.ch.adr a.ch.len a.ch.cap) ∧ W.cell? ⟨b, off + k * 5 + 2, none⟩ = some (.slice a.pr.sa a.pr.sn a.pr.sc) ∧ W.cell? ⟨b, off + k * 5 + 2 + 1, none⟩ = some (.slice a.pr.la a.pr.ln a.pr.lc) ∧ b < W.heap.size))
      have HNEW : Hid (∀ j, wr.heap.size ≤ j → k2 g p7 j) := Lib.hid (fun j hj => ⟨by have := hL.lt; omega, by have := hP.lt 2 rfl; omega⟩)
      have y0 : wr.cell? ⟨b, off + k * 5, none⟩ = some (.int .i64 a.kind) := hc k a ha 0 (by decide)
      have y1 : wr.cell? ⟨b, off + k * 5 + 1, none⟩ = some (.slice a.ch.adr a.ch.len a.ch.cap) := hc k a ha 1 (by decide)
      have y2 : wr.cell? ⟨b, off + k * 5 + 2, none⟩ = some (.slice a.pr.sa a.pr.sn a.pr.sc) := hc k a ha 2 (by decide)
      have y3 : wr.cell? ⟨b, off + k * 5 + 3, none⟩ = some (.slice a.pr.la a.pr.ln a.pr.lc) := hc k a ha 3 (by decide)
      have y4 : wr.cell? ⟨b, off + k * 5 + 4, none⟩ = some (.slice a.ta a.tn a.tc) := hc k a ha 4 (by decide)
      clear ha ham hsm hc hL hP
      by_cases h0 : (0 : Int) ≤ a.kind
      ·by_cases h2 : a.kind ≤ (2 : Int)
       ·have hDO := do_any w.heap.size w.heap.size (k2 g p7) g x m a wr.drew ds r (HS.out.keep (Below.refl _ _).drew) HNEW.out (HIN.out wr.drew HP.out.below.drew) (fun j hj => HS.out.low j hj)
        unfold MsS.val Acd.val at hDO
        have HDO := Lib.hid hDO
        have q0 := HP.out.c 2 0 rfl rfl
        have q1 := HP.out.c 2 1 rfl rfl
        have q2 := HP.out.c 2 2 rfl rfl
        have q3 := HP.out.c 2 3 rfl rfl
        have q4 := HP.out.c 2 4 rfl rfl
        have q5 := HP.out.c 2 5 rfl rfl
        have ql := HP.out.lt 2 rfl
        clear hDO
        go_wp2_with fail
        refine Lx.region (C := fun _ => True) (hs := []) (by kernel_rfl) (by kernel_rfl) trivial ?_
        repeat' (first | ((first | refine Lx.ln (fun K hK => ?_) | (first | (refine Lx.lp (v := ?_) ?_ (fun K hK => ?_); rotate_left 1; intro w' hCw; try dsimp only at hCw) | (refine Lx.lr (v := ?_) ?_ (fun K hK => ?_); rotate_left 1)); go_simp; first | done | with_reducible rfl); go_simp; refine hK _ ?_; clear hK K) | (refine Lx.le (fun K hK => ?_); go_simp; (first | (go_at_call 25; refine HDO.out.mono ?_; rintro e W6 ⟨x6, m6, rfl, hL6, hg6⟩; have HP6 := Lib.hid (HP.out.drew.upd 1 (e' := .blk g 110 x6.cells) rfl hg6 hL6.blk (fun _ h => .inl h)); have HL6 := Lib.hid hL6; have z0 := HP6.out.c 2 0 rfl rfl; have z1 := HP6.out.c 2 1 rfl rfl; have z2 := HP6.out.c 2 2 rfl rfl; have z3 := HP6.out.c 2 3 rfl rfl; have z4 := HP6.out.c 2 4 rfl rfl; have z5 := HP6.out.c 2 5 rfl rfl; have zf := HP6.out.f 2 rfl; have zl := HP6.out.lt 2 rfl; unfold MsS.val; clear hL6 hg6 q0 q1 q2 q3 q4 q5 ql) | skip); refine hK _ _ (trivial) ?_; clear hK K))
        all_goals (refine Lx.lex_nil ?_)
        clear z0 z1 z2 z3 z4 z5 zf zl HP HS HDO
        go_wp2_with fail
        go_roundw
        case rel =>
         have hq : p7 ≠ g := fun e => HP6.out.ne 1 2 rfl rfl (by decide) (g := g) rfl (congrArg some e)
         refine ⟨k + 1, g, x6, m6, hlt, rfl, rfl, by go_num, ?_, ((((((HP6.out.set 2 0 (.slice m6.s.ad m6.s.nd m6.s.cd) rfl).set 2 1 (.slice m6.s.rs.a0 m6.s.rs.n0 m6.s.rs.c0) rfl).set 2 2 (.slice m6.s.rs.a1 m6.s.rs.n1 m6.s.rs.c1) rfl).set 2 3 (.slice m6.s.rs.a2 m6.s.rs.n2 m6.s.rs.c2) rfl).set 2 4 (.slice m6.pa m6.pn m6.pc) rfl).set 2 5 (.slice m6.qa m6.qn m6.qc) rfl)⟩
         exact ((((((HL6.out.setq hq 0 _).setq hq 1 _).setq hq 2 _).setq hq 3 _).setq hq 4 _).setq hq 5 _)
        case measure => simp [intOf]; omega
       ·clear y1 y2 y3 y4
        have HCP := Lib.hid (copy_any _ _ g x wr HS.out.s.choose_spec.1)
        go_wp2_with fail
        refine HCP.out.mono ?_
        rintro e W1 ⟨rfl, hW1⟩
        obtain ⟨g', hg'⟩ : ∃ q, q = wr.heap.size := ⟨_, rfl⟩
        rw [← hg']
        have hPc := HP.out.alloc x.cells 110
        rw [← hW1, ← hg'] at hPc
        have hb1 : Below wr.heap.size wr W1 := by rw [hW1]; exact (Below.refl _ _).alloc (Nat.le_refl _) _
        have hL1 := HS.out.keep hb1
        obtain ⟨C1, hS1, hC1⟩ := hL1.s
        have hin1 := HIN.out W1 (HP.out.below.trans (hb1.mono HP.out.below.size))
        have hPK := pack_any C1 (k2 g p7) g x a.ch.adr a.ch.len a.ch.cap W1 a.ch.chs hS1 hL1.ok (fun k hk => HNEW.out k (Nat.le_trans hb1.size hk)) hS1.hdl (by have := hin1.cl; omega) (hin1.ch.rowS (by decide))
        have HPK := Lib.hid hPK
        have HPC := Lib.hid hPc
        have HB1 := Lib.hid hb1
        have HW1 := Lib.hid (And.intro hW1 hg')
        have z1 := (HCL.out W1 hPc.below).2.1
        have zl := (HCL.out W1 hPc.below).2.2.2.2
        clear hPc hb1 hL1 hS1 hC1 hin1 hPK hW1 hg' HCP y0
        go_wp2_with fail
        refine HPK.out.mono ?_
        rintro e W2 hpost
        obtain ⟨x2, rfl, hS2, hO2, hds2, hr2, hP2, hQ2, hg2⟩ := hpost
        have hPd := HPC.out.upd 1 (e' := .blk g 110 x2.cells) rfl hg2 hS2.blk (fun _ h => .inl h)
        have hin2 := HIN.out W2 hPd.below
        have hRF := refute_any C1 (k2 g p7) g x2 a.pr W2 hS2 hO2 (fun k hk => HNEW.out k (Nat.le_trans (Nat.le_trans HB1.out.size hg2.size) hk)) (hin2.pr.mono (fun _ _ _ => trivial))
        unfold Prf.val Prf.v1 Prf.v2 at hRF
        have HRF := Lib.hid hRF
        have HPD := Lib.hid hPd
        have HG2 := Lib.hid hg2
        have z2 := (HCL.out W2 hPd.below).2.2.1
        have z3 := (HCL.out W2 hPd.below).2.2.2.1
        have zk := (HCL.out W2 hPd.below).2.2.2.2
        clear hS2 hO2 hds2 hr2 hP2 hQ2 hg2 hPd hin2 hRF HPK HPC z1 zl
        go_wp2_with fail
        refine HRF.out.mono ?_
        rintro e W3 hpost
        obtain ⟨x3, rfl, hS3, hO3, hds3, hr3, hP3, hQ3, hg3⟩ := hpost
        have hg13 := gb_grown HG2.out hg3
        rw [HW1.out.1] at hg13
        have hL3 := HS.out.copied hg13 HP.out.below.size
        rw [← HW1.out.2] at hL3
        have hPf : Hp w w W3 [.blk p2 29 [.slice s.ad s.nd s.cd, .slice s.rs.a0 s.rs.n0 s.rs.c0, .slice s.rs.a1 s.rs.n1 s.rs.c1, .slice s.rs.a2 s.rs.n2 s.rs.c2], .blk g' 110 x.cells, .blk p7 72 [.slice m.s.ad m.s.nd m.s.cd, .slice m.s.rs.a0 m.s.rs.n0 m.s.rs.c0, .slice m.s.rs.a1 m.s.rs.n1 m.s.rs.c1, .slice m.s.rs.a2 m.s.rs.n2 m.s.rs.c2, .slice m.pa m.pn m.pc, .slice m.qa m.qn m.qc]] [] := ((HPD.out.upd 1 (e' := .blk g 110 x3.cells) rfl hg3 hS3.blk (fun _ h => .inl h)).sub (L' := [.blk p2 29 [.slice s.ad s.nd s.cd, .slice s.rs.a0 s.rs.n0 s.rs.c0, .slice s.rs.a1 s.rs.n1 s.rs.c1, .slice s.rs.a2 s.rs.n2 s.rs.c2], .blk p7 72 [.slice m.s.ad m.s.nd m.s.cd, .slice m.s.rs.a0 m.s.rs.n0 m.s.rs.c0, .slice m.s.rs.a1 m.s.rs.n1 m.s.rs.c1, .slice m.s.rs.a2 m.s.rs.n2 m.s.rs.c2, .slice m.pa m.pn m.pc, .slice m.qa m.qn m.qc], .blk g' 110 x.cells]) (List.Sublist.cons_cons _ (List.Sublist.cons _ (List.Sublist.refl _)))).perm (List.Perm.cons _ (List.Perm.swap _ _ _))
        obtain ⟨C3, hS3', _⟩ := hL3.s
        have hAG := agrees_any C3 _ g' x m ds r W3 hS3' hL3.ok hL3.mx.at
        rw [hL3.eP, hL3.eQ, decide_eq_true rfl, decide_eq_true rfl] at hAG
        unfold MsS.val at hAG
        have HAG := Lib.hid hAG
        have HPF := Lib.hid hPf
        have HL3 := Lib.hid hL3
        clear hS3 hO3 hds3 hr3 hP3 hQ3 hg3 hg13 hL3 hPf hS3' hAG HRF HPD HG2 HW1 HB1 z2 z3 zk
        have q0 := HPF.out.c 2 0 rfl rfl
        have q1 := HPF.out.c 2 1 rfl rfl
        have q2 := HPF.out.c 2 2 rfl rfl
        have q3 := HPF.out.c 2 3 rfl rfl
        have q4 := HPF.out.c 2 4 rfl rfl
        have q5 := HPF.out.c 2 5 rfl rfl
        have ql := HPF.out.lt 2 rfl
        go_wp2_with fail
        refine HAG.out.mono ?_
        rintro e W4 ⟨rfl, hb4⟩
        have HP4 := Lib.hid (HPF.out.keep hb4)
        have HL4 := Lib.hid (HL3.out.keep hb4)
        clear hb4 HAG HPF HL3 q0 q1 q2 q3 q4 q5 ql HP HS
        go_wp2_with fail
        go_roundw
        case rel => exact ⟨k + 1, g', x, m, hlt, rfl, rfl, by go_num, HL4.out, HP4.out⟩
        case measure => simp [intOf]; omega
      ·clear y1 y2 y3 y4
       have HCP := Lib.hid (copy_any _ _ g x wr HS.out.s.choose_spec.1)
       go_wp2_with fail
       refine HCP.out.mono ?_
       rintro e W1 ⟨rfl, hW1⟩
       obtain ⟨g', hg'⟩ : ∃ q, q = wr.heap.size := ⟨_, rfl⟩
       rw [← hg']
       have hPc := HP.out.alloc x.cells 110
       rw [← hW1, ← hg'] at hPc
       have hb1 : Below wr.heap.size wr W1 := by rw [hW1]; exact (Below.refl _ _).alloc (Nat.le_refl _) _
       have hL1 := HS.out.keep hb1
       obtain ⟨C1, hS1, hC1⟩ := hL1.s
       have hin1 := HIN.out W1 (HP.out.below.trans (hb1.mono HP.out.below.size))
       have hPK := pack_any C1 (k2 g p7) g x a.ch.adr a.ch.len a.ch.cap W1 a.ch.chs hS1 hL1.ok (fun k hk => HNEW.out k (Nat.le_trans hb1.size hk)) hS1.hdl (by have := hin1.cl; omega) (hin1.ch.rowS (by decide))
       have HPK := Lib.hid hPK
       have HPC := Lib.hid hPc
       have HB1 := Lib.hid hb1
       have HW1 := Lib.hid (And.intro hW1 hg')
       have z1 := (HCL.out W1 hPc.below).2.1
       have zl := (HCL.out W1 hPc.below).2.2.2.2
       clear hPc hb1 hL1 hS1 hC1 hin1 hPK hW1 hg' HCP y0
       go_wp2_with fail
       refine HPK.out.mono ?_
       rintro e W2 hpost
       obtain ⟨x2, rfl, hS2, hO2, hds2, hr2, hP2, hQ2, hg2⟩ := hpost
       have hPd := HPC.out.upd 1 (e' := .blk g 110 x2.cells) rfl hg2 hS2.blk (fun _ h => .inl h)
       have hin2 := HIN.out W2 hPd.below
       have hRF := refute_any C1 (k2 g p7) g x2 a.pr W2 hS2 hO2 (fun k hk => HNEW.out k (Nat.le_trans (Nat.le_trans HB1.out.size hg2.size) hk)) (hin2.pr.mono (fun _ _ _ => trivial))
       unfold Prf.val Prf.v1 Prf.v2 at hRF
       have HRF := Lib.hid hRF
       have HPD := Lib.hid hPd
       have HG2 := Lib.hid hg2
       have z2 := (HCL.out W2 hPd.below).2.2.1
       have z3 := (HCL.out W2 hPd.below).2.2.2.1
       have zk := (HCL.out W2 hPd.below).2.2.2.2
       clear hS2 hO2 hds2 hr2 hP2 hQ2 hg2 hPd hin2 hRF HPK HPC z1 zl
       go_wp2_with fail
       refine HRF.out.mono ?_
       rintro e W3 hpost
       obtain ⟨x3, rfl, hS3, hO3, hds3, hr3, hP3, hQ3, hg3⟩ := hpost
       have hg13 := gb_grown HG2.out hg3
       rw [HW1.out.1] at hg13
       have hL3 := HS.out.copied hg13 HP.out.below.size
       rw [← HW1.out.2] at hL3
       have hPf : Hp w w W3 [.blk p2 29 [.slice s.ad s.nd s.cd, .slice s.rs.a0 s.rs.n0 s.rs.c0, .slice s.rs.a1 s.rs.n1 s.rs.c1, .slice s.rs.a2 s.rs.n2 s.rs.c2], .blk g' 110 x.cells, .blk p7 72 [.slice m.s.ad m.s.nd m.s.cd, .slice m.s.rs.a0 m.s.rs.n0 m.s.rs.c0, .slice m.s.rs.a1 m.s.rs.n1 m.s.rs.c1, .slice m.s.rs.a2 m.s.rs.n2 m.s.rs.c2, .slice m.pa m.pn m.pc, .slice m.qa m.qn m.qc]] [] := ((HPD.out.upd 1 (e' := .blk g 110 x3.cells) rfl hg3 hS3.blk (fun _ h => .inl h)).sub (L' := [.blk p2 29 [.slice s.ad s.nd s.cd, .slice s.rs.a0 s.rs.n0 s.rs.c0, .slice s.rs.a1 s.rs.n1 s.rs.c1, .slice s.rs.a2 s.rs.n2 s.rs.c2], .blk p7 72 [.slice m.s.ad m.s.nd m.s.cd, .slice m.s.rs.a0 m.s.rs.n0 m.s.rs.c0, .slice m.s.rs.a1 m.s.rs.n1 m.s.rs.c1, .slice m.s.rs.a2 m.s.rs.n2 m.s.rs.c2, .slice m.pa m.pn m.pc, .slice m.qa m.qn m.qc], .blk g' 110 x.cells]) (List.Sublist.cons_cons _ (List.Sublist.cons _ (List.Sublist.refl _)))).perm (List.Perm.cons _ (List.Perm.swap _ _ _))
       obtain ⟨C3, hS3', _⟩ := hL3.s
       have hAG := agrees_any C3 _ g' x m ds r W3 hS3' hL3.ok hL3.mx.at
       rw [hL3.eP, hL3.eQ, decide_eq_true rfl, decide_eq_true rfl] at hAG
       unfold MsS.val at hAG
       have HAG := Lib.hid hAG
       have HPF := Lib.hid hPf
       have HL3 := Lib.hid hL3
       clear hS3 hO3 hds3 hr3 hP3 hQ3 hg3 hg13 hL3 hPf hS3' hAG HRF HPD HG2 HW1 HB1 z2 z3 zk
       have q0 := HPF.out.c 2 0 rfl rfl
       have q1 := HPF.out.c 2 1 rfl rfl
       have q2 := HPF.out.c 2 2 rfl rfl
       have q3 := HPF.out.c 2 3 rfl rfl
       have q4 := HPF.out.c 2 4 rfl rfl
       have q5 := HPF.out.c 2 5 rfl rfl
       have ql := HPF.out.lt 2 rfl
       go_wp2_with fail
       refine HAG.out.mono ?_
       rintro e W4 ⟨rfl, hb4⟩
       have HP4 := Lib.hid (HPF.out.keep hb4)
       have HL4 := Lib.hid (HL3.out.keep hb4)
       clear hb4 HAG HPF HL3 q0 q1 q2 q3 q4 q5 ql HP HS
       go_wp2_with fail
       go_roundw
       case rel => exact ⟨k + 1, g', x, m, hlt, rfl, rfl, by go_num, HL4.out, HP4.out⟩
       case measure => simp [intOf]; omega
     ·obtain rfl : k = n := by omega
      have j0 : ¬ (k : Int) < (k : Int) := by omega
      clear hL hP
      go_wp2_with fail
      refine (HKN.out _ HP.out.below).mono ?_
      rintro e WE ⟨rfl, hbE⟩
      have HB := Lib.hid (HP.out.keep hbE).below
      clear hbE
      go_wp2_with fail
      go_ret
      exact ⟨rfl, HB.out⟩
theorem containPlays_lifted (os : Os) (started : os.Started) (H : Type) (enc : TypeId × Value → H) :
  ReturnsInHanded {} Tryz.checked os 6 .any (fun w args => (Rows.containPlaysSpec.pre enc Tryz.prog Tryz.f6 [] false w args ∧ laidMetH Tryz.prog laid07 w) ∧ sizedMet enc Tryz.prog Tryz.f6 (OpenSpec.ofChange Rows.containPlaysSpec) false w args) (Rows.containPlaysSpec.post enc Tryz.prog Tryz.f6 false true false false) := by
 refine handed_laid (C := Tryz.checked) (laid := laid07) own started (by kernel_rfl) Tryz.func6
  (ChangeSpec.witness_shaped (enc := enc) (C := Tryz.checked) (os := os) (X := fun w _ => laidMetH Tryz.prog laid07 w) false (World.laidAll Tryz.prog os laid07) #[.agg #[.slice none 0 0, .slice none 0 0, .slice none 0 0, .slice none 0 0], .slice none 0 0] 8 (World.laidAll_os _ _ _) (World.shaped_of_ZipB (by kernel_rfl) (by kernel_rfl)) (by kernel_rfl) (by kernel_rfl) (by kernel_rfl) (laidHold os _)) ?_
 intro W base args ds gs before hval0 hW hL hsh
 have hTab := tab_of hL hsh
 have hval : ∀ (j : Nat) t v, Tryz.f6.params[j]? = some t → args[j]? = some v → Value.okWide Tryz.prog W .any base t v := hval0
 have hW' := hW
 obtain ⟨p, q, hA0, hV, rfl, hfz, hnd⟩ := hW
 have hA : DataW.TrodAll enc Tryz.prog W 0 (fun _ => true) true Tryz.f6.params.toList args.toList ds p := hA0
 rw [Tryz.params6] at hA hval
 obtain ⟨v0, vs0, d0, ds0, p0, q0, hargs, rfl, rfl, h0, r0⟩ := trodAll_cons hA
 obtain ⟨v1, vs1, d1, ds1, p1, q1, rfl, rfl, rfl, h1, r1⟩ := trodAll_cons r0
 obtain ⟨rfl, rfl, rfl⟩ := trodAll_nil r1
 obtain rfl : args = #[v0, v1] := by cases args; simp_all
 obtain ⟨rfl, rfl⟩ := trodVars_none hV
 have k0 := h0
 have lt0 : ∀ x ∈ p0, x.block < W.heap.size := by obtain ⟨m, hm⟩ := k0; exact DataW.trod_lt m _ _ _ hm
 have k1 := h1
 have lt1 : ∀ x ∈ p1, x.block < W.heap.size := by obtain ⟨m, hm⟩ := k1; exact DataW.trod_lt m _ _ _ hm
 obtain ⟨s0, ds0, x0, rfl, R0⟩ := arg_prb (hval 0 29 _ rfl rfl) h0
 obtain ⟨A1, n1, c1, xs1, rfl, R1⟩ := arg_acts (hval 1 30 _ rfl rfl) h1
 clear hA0 hval0
 refine (containPlays_walk W hTab s0 ds0 x0 R0 A1 n1 c1 xs1 R1).mono fun e W' ⟨he, bel⟩ => ?_
 subst he
 exact ⟨_, rfl, _, _, _, [], _, [], hW', trodAll_mk1 (shut_bool Tryz.underlying4 _), (trodAll_cons_mk (Below.trod laidOut (by kernel_rfl) (of_decide_eq_true (by kernel_rfl)) k0 bel lt0) (trodAll_cons_mk (Below.trod laidOut (by kernel_rfl) (of_decide_eq_true (by kernel_rfl)) k1 bel lt1) trodAll_mk0)), rfl, bel.frame _, fun h => by cases h⟩
theorem containPlays_over : Rows.containPlaysRow.holds Tryz.pinned (OpenSpec.ofChange Rows.containPlaysSpec) :=
 OpenClaim.holds_of_wide 6 Tryz.f6 rfl rfl rfl rfl rfl rfl rfl ⟨rfl, rfl, rfl, rfl, rfl⟩ rfl rfl rfl rfl rfl (by kernel_rfl) Tryz.func6 (by kernel_rfl)
  (of_decide_eq_true (by kernel_rfl)) (by unfold Func.isWrapper; first | (rw [if_pos (by decide +kernel)]; kernel_rfl) | (rw [if_neg (by decide +kernel)]; exact ⟨rfl, rfl⟩))
  (fun os started H enc _ => containPlays_lifted os started H enc)
theorem containPlaysCard_holds : Rows.ContainPlaysCardSaid :=
 Claim7.holds_tied_plain_at .later [] [.data] true (true, "6a1e8bf9da2a490e4a6c8e160f0563e6348fe16053a562f29b6eba6119d16f53") false
  containPlays_over (fun _ h => by cases h) (by kernel_rfl) (fun _ h => by cases h) containPlays_row_tie rfl ⟨rfl, rfl⟩ (by kernel_rfl) rfl
  (fun f fn hf hfn => by
   obtain rfl : f = 6 := Option.some.inj ((show Tryz.prog.funcNamed "bandplan/bandplanlaw24.ContainPlays" = some 6 by kernel_rfl).symm.trans hf) |>.symm
   obtain rfl : fn = Tryz.f6 := (Option.some.inj (Tryz.func6.symm.trans hfn)).symm
   exact ⟨by kernel_rfl, fun j t ht => by
    rw [Tryz.params6] at ht
    rcases j with _ | j
    ·obtain rfl : t = 29 := by simpa using ht.symm
     exact (show Tryz.prog.wantsStandIn 29 = false by kernel_rfl)
    rcases j with _ | j
    ·obtain rfl : t = 30 := by simpa using ht.symm
     exact (show Tryz.prog.wantsStandIn 30 = false by kernel_rfl)
    ·simp at ht⟩)
  (by kernel_rfl)
#print axioms containPlaysCard_holds
end Go.Proofs.YtdpbbhbegehcjaaGreatDoor
