/- CONTAIN HOLDS (the theorem of stage 24): for every problem, list of calls and list of stations, the law ContainHolds returns true, and the input reads as it did. Conditions: none beyond the card's own. -/
import Derived.Deep.LoopGhost
import Derived.Deep.CutBlock
import Derived.Test.YtdpbbhbegehcjaaGreatDoorHol22
import Derived.Test.YtdpbbhbegehcjaaGreatDoorHol29
set_option maxRecDepth 100000
set_option maxHeartbeats 16000000
namespace Go.Proofs.YtdpbbhbegehcjaaGreatDoor
open Go.RowKit Go.Shelf Go.ChangeShapes Go.WideShapes Go.ChangeAt Go.Deep Go.Joins
theorem own_cap {w : World} {B t sz n c : Nat} {A : Option Addr} {xs : List Value} (h : w.ownsRow B t sz (.slice A n c) n xs) : n ≤ c := by
 rcases h.2 with ⟨e, _⟩ | ⟨g, cap, cur, e, _, _, h4, _⟩
 ·injection e with _ e1 e2; omega
 ·injection e with _ e1 e2; subst e2; exact h4
structure HlSt (W : World) (g : Nat) (x : StS) (ds : List Dom) (r : Rul) : Prop where
 at_ : StAt W g (kd g) g x
 ok : StOk x
 say : x.ds.map Dom.say = ds.map Dom.say
 req : x.r = r
 good : Good ds r x.P x.Q
theorem hl_pack {W W' : World} {g : Nat} {x : StS} {ds : List Dom} {r : Rul} {l : Chs} {n : Int} {e : Ending} (hv : validP ds r = true) (h : HlSt W g x ds r) (hp : StPost g (kd g) g x (pkF x.ds x.r x.P l).1 x.Q n W e W') : ∃ x', e = .returned (.int .i64 n) ∧ HlSt W' g x' ds r ∧ Knows x.P x'.P ∧ KnowsQ x.Q x'.Q ∧ W.grownBy W' (some g) := by
 obtain ⟨x', rfl, h1, h2, h3, h4, h5, h6, h7⟩ := hp
 rw [pk_say _ _ _ h.say, h.req] at h5
 refine ⟨x', rfl, ⟨h1, h2, by rw [h3]; exact h.say, by rw [h4]; exact h.req, by rw [h5, h6]; exact good_pk hv h.good⟩, ?_, ?_, h7⟩
 ·rw [h5]; exact knows_pk (fun l hl => (h.good.p l hl).1)
 ·rw [h6]; exact fun o ho => ⟨o, ho, fun _ hy => hy⟩
theorem hl_refute {W W' : World} {g : Nat} {x : StS} {ds : List Dom} {r : Rul} {y : Prv} {n : Int} {e : Ending} (h : HlSt W g x ds r) (hc : chkF ds r y = 0) (hp : StPost g (kd g) g x x.P (rfF x.ds x.Q y).1 n W e W') : ∃ x', e = .returned (.int .i64 n) ∧ HlSt W' g x' ds r ∧ Knows x.P x'.P ∧ KnowsQ x.Q x'.Q ∧ W.grownBy W' (some g) := by
 obtain ⟨x', rfl, h1, h2, h3, h4, h5, h6, h7⟩ := hp
 rw [rf_say _ _ h.say] at h6
 refine ⟨x', rfl, ⟨h1, h2, by rw [h3]; exact h.say, by rw [h4]; exact h.req, by rw [h5, h6]; exact good_rf h.good hc⟩, ?_, ?_, h7⟩
 ·rw [h5]; exact fun o ho => ⟨o, ho, fun _ hy => hy⟩
 ·rw [h6]; exact knows_rf (fun l hl => (h.good.q l hl).1)
theorem HlSt.keep {W X : World} {g : Nat} {x : StS} {ds : List Dom} {r : Rul} (h : HlSt W g x ds r) (hb : Below W.heap.size W X) : HlSt X g x ds r := ⟨h.at_.keep hb, h.ok, h.say, h.req, h.good⟩
def LkA (r : (Int × Chs × Prv) × Int) (w : World) (e : Ending) (w' : World) : Prop := ∃ (o : Lem) (z : Prf), e = .returned (.tuple #[.agg #[.int .i64 r.1.1, .slice o.adr o.len o.cap, .slice z.sa z.sn z.sc, .slice z.la z.ln z.lc, .int .i64 0], .int .i64 r.2]) ∧ (r.1.1, o.chs, z.say) = r.1 ∧ (⟨r.1.1, o, z, 0⟩ : Ans).At w' ∧ z.ln ≤ z.lc ∧ Below w.heap.size w w'
theorem lk_ans {r : (Int × Chs × Prv) × Int} {w : World} {e : Ending} {w' : World} (h : LkPost r w e w') : LkA r w e w' := by
 obtain ⟨o, z, rfl, h1, h2, h3, h4⟩ := h
 have hl : o.chs.length = o.len := by
  have h := (h4.row 0 rfl).1
  rw [flat_lenR] at h; omega
 exact ⟨o, z, rfl, by rw [h1, h2], lk_at rfl h4 h3 hl, own_cap (h4.row 2 rfl), h4.below⟩
theorem hl_lookup {W : World} {g : Nat} {x : StS} {ds : List Dom} {r : Rul} (h : HlSt W g x ds r) (A : Option Addr) (n c : Nat) (L : List Int) (hn : n ≤ 100000) (hl : Row1 intV W W.heap.size A n L) : Calls Tryz.prog 15 #[.pointer (some ⟨g, 0, none⟩), .slice A n c] W (LkA (lkF ds x.P x.Q L) W) := by
 have h1 := lookup_any g (kd g) g x A n c W L h.at_ h.ok hn hl
 rw [lk_say _ _ _ h.say] at h1
 exact h1.mono fun _ _ hh => lk_ans hh
theorem knows_refl (P : List Chs) (Q : List Prv) : Knows P P ∧ KnowsQ Q Q := ⟨fun o ho => ⟨o, ho, fun _ hy => hy⟩, fun o ho => ⟨o, ho, fun _ hy => hy⟩⟩
theorem knows_trans {P1 P2 P3 : List Chs} {Q1 Q2 Q3 : List Prv} (h : Knows P1 P2 ∧ KnowsQ Q1 Q2) (h' : Knows P2 P3 ∧ KnowsQ Q2 Q3) : Knows P1 P3 ∧ KnowsQ Q1 Q3 := by
 refine ⟨fun o ho => ?_, fun o ho => ?_⟩
 ·obtain ⟨o2, h2, e2⟩ := h.1 o ho
  obtain ⟨o3, h3, e3⟩ := h'.1 o2 h2
  exact ⟨o3, h3, fun y hy => e3 y (e2 y hy)⟩
 ·obtain ⟨o2, h2, e2⟩ := h.2 o ho
  obtain ⟨o3, h3, e3⟩ := h'.2 o2 h2
  exact ⟨o3, h3, fun y hy => e2 y (e3 y hy)⟩
theorem containHolds_walk (w : World) (hT : Tab w) (s : PrbS) (ds : List Dom) (r : Rul) (R0 : PrbAt w w.heap.size s ds r ∧ s.nd ≤ 9223372036854775807) (A : Option Addr) (n c : Nat) (xs : List Acd) (R1 : RowS 5 Acd.cell w w.heap.size A n xs ∧ (∀ x ∈ xs, x.Raw w) ∧ n ≤ 9223372036854775807) (SA : Option Addr) (sn sc : Nat) (L : List Int) (R2 : Row1 intV w w.heap.size SA sn L) (_ : ∀ z ∈ L, I64 z) (b2 : sn ≤ 9223372036854775807) :
  Calls Tryz.prog 3 #[s.val, .slice A n c, .slice SA sn sc] w fun e W' => e = .returned (.bool true) ∧ Below w.heap.size w W' := by
 obtain ⟨p3, hp3⟩ : ∃ q, q = w.heap.size := ⟨_, rfl⟩
 obtain ⟨V0, hV0⟩ : ∃ V, V = w.alloc (.cells #[.slice s.ad s.nd s.cd, .slice s.rs.a0 s.rs.n0 s.rs.c0, .slice s.rs.a1 s.rs.n1 s.rs.c1, .slice s.rs.a2 s.rs.n2 s.rs.c2] 29) := ⟨_, rfl⟩
 have hP0 : Hp w w V0 [.blk p3 29 [.slice s.ad s.nd s.cd, .slice s.rs.a0 s.rs.n0 s.rs.c0, .slice s.rs.a1 s.rs.n1 s.rs.c1, .slice s.rs.a2 s.rs.n2 s.rs.c2]] [] := by
  have h := (Hp.start w).alloc [.slice s.ad s.nd s.cd, .slice s.rs.a0 s.rs.n0 s.rs.c0, .slice s.rs.a1 s.rs.n1 s.rs.c1, .slice s.rs.a2 s.rs.n2 s.rs.c2] 29
  rw [hV0, hp3]; exact h
 have HPB := Lib.hid (fun (W : World) (hb : Below w.heap.size w W) => (⟨R0.1.1.keep hb, R0.1.2.keep hb⟩ : PrbAt W W.heap.size s ds r))
 have HND := Lib.hid R0.2
 have HSM := Lib.hid (small_any s 10 40 V0 ds r R0.2 (HPB.out V0 hP0.below))
 have HFW := Lib.hid (fun (W : World) (hb : Below w.heap.size w W) => few_any A n c 12 W xs (by decide) R1.2.2 (R1.1.keep hb) (fun x hx => (R1.2.1 x hx).keep hb))
 have HVL := Lib.hid (fun (W : World) (hb : Below w.heap.size w W) => rvalid_any s W ds r R0.2 (HPB.out W hb))
 have HKN := Lib.hid (fun (W : World) (hb : Below w.heap.size w W) => known_any W (hT.keep hb))
 have HXS := Lib.hid R1
 have HTL := Lib.hid (fun (W : World) (hb : Below w.heap.size w W) => R2.keep hb)
 have HT := Lib.hid hT
 have HVQ := Lib.hid (valid_eq (ds := ds) (r := r) (fun d hd => (R0.1.1.2 d hd).1.symm))
 have HP0 := Lib.hid hP0
 have m0 := HP0.out.c 0 0 rfl rfl
 have m1 := HP0.out.c 0 1 rfl rfl
 have m2 := HP0.out.c 0 2 rfl rfl
 have m3 := HP0.out.c 0 3 rfl rfl
 have ml := HP0.out.lt 0 rfl
 unfold PrbS.val at *
 clear hP0 R0 R1 R2 hT
 generalize hsm : smF ds r 10 40 = sm at *
 have HSME := Lib.hid hsm
 clear hsm
 go_enter Tryz.func3, Tryz.ntmps3
 go_upto_region 1 with fail
 rw [← hV0, ← hp3]
 clear hV0 hp3
 go_wp2_with fail
 refine HSM.out.mono ?_
 rintro e W1 ⟨rfl, hb1⟩
 have HP1 := Lib.hid (HP0.out.keep hb1)
 clear m0 m1 m2 m3 ml hb1 HP0 HSM
 cases sm with
 | false =>
  go_wp2_with fail
  refine (HKN.out _ HP1.out.below).mono ?_
  rintro e WE ⟨rfl, hbE⟩
  have HB := Lib.hid (HP1.out.keep hbE).below
  clear hbE
  go_wp2_with fail
  go_ret
  exact ⟨rfl, HB.out⟩
 | true =>
  have HF1 := Lib.hid (HFW.out W1 HP1.out.below)
  clear HFW
  generalize hfw : fewA xs 12 = fw at *
  have HFWE := Lib.hid hfw
  clear hfw
  go_wp2_with fail
  refine HF1.out.mono ?_
  rintro e W2 ⟨rfl, hb2⟩
  have HP2 := Lib.hid (HP1.out.keep hb2)
  clear hb2 HP1 HF1
  have m0 := HP2.out.c 0 0 rfl rfl
  have m1 := HP2.out.c 0 1 rfl rfl
  have m2 := HP2.out.c 0 2 rfl rfl
  have m3 := HP2.out.c 0 3 rfl rfl
  have ml := HP2.out.lt 0 rfl
  cases fw with
  | false =>
   go_wp2_with fail
   refine (HKN.out _ HP2.out.below).mono ?_
   rintro e WE ⟨rfl, hbE⟩
   have HB := Lib.hid (HP2.out.keep hbE).below
   clear hbE
   go_wp2_with fail
   go_ret
   exact ⟨rfl, HB.out⟩
  | true =>
   by_cases hsn : (20 : Int) < (sn : Int)
   ·skip
    go_wp2_with fail
    refine (HKN.out _ HP2.out.below).mono ?_
    rintro e WE ⟨rfl, hbE⟩
    have HB := Lib.hid (HP2.out.keep hbE).below
    clear hbE
    go_wp2_with fail
    go_ret
    exact ⟨rfl, HB.out⟩
   ·have HV2 := Lib.hid (HVL.out W2 HP2.out.below)
    clear HVL
    generalize hvl : validR ds r = vl at *
    go_wp2_with fail
    refine HV2.out.mono ?_
    rintro e W3 ⟨rfl, hb3⟩
    have HP3 := Lib.hid (HP2.out.keep hb3)
    clear hb3 HP2 HV2 m0 m1 m2 m3 ml
    have m0 := HP3.out.c 0 0 rfl rfl
    have m1 := HP3.out.c 0 1 rfl rfl
    have m2 := HP3.out.c 0 2 rfl rfl
    have m3 := HP3.out.c 0 3 rfl rfl
    have ml := HP3.out.lt 0 rfl
    cases vl with
    | false =>
     go_wp2_with fail
     refine (HKN.out _ HP3.out.below).mono ?_
     rintro e WE ⟨rfl, hbE⟩
     have HB := Lib.hid (HP3.out.keep hbE).below
     clear hbE
     go_wp2_with fail
     go_ret
     exact ⟨rfl, HB.out⟩
    | true =>
     have hvp : validP ds r = true := HVQ.out
     have hNW := new_any s W3 (HT.out.keep HP3.out.below) ds r HND.out (fun d hd => by have := (smF_spec (by decide) HSME.out).2.1 d hd; omega) (HPB.out W3 HP3.out.below)
     unfold PrbS.val at hNW
     have HNW := Lib.hid hNW
     clear hvl HVQ hNW
     have HVP := Lib.hid hvp
     have hsn20 : sn ≤ 20 := by omega
     clear hvp
     go_wp2_with fail
     refine HNW.out.mono ?_
     rintro e W4 hN
     unfold NewPost at hN
     rw [if_pos HVP.out] at hN
     obtain ⟨g, x0, rfl, hge, hSt, hOk, hds, hr, hPe, hQe, hb4⟩ := hN
     have hs0 := hSt (kd g) (Nat.lt_irrefl _)
     have HP4 : Hid (Hp w w W4 [.blk p3 29 [.slice s.ad s.nd s.cd, .slice s.rs.a0 s.rs.n0 s.rs.c0, .slice s.rs.a1 s.rs.n1 s.rs.c1, .slice s.rs.a2 s.rs.n2 s.rs.c2], .blk g 110 x0.cells] []) := Lib.hid (HP3.out.pushBlk hb4 hs0.blk hge)
     have HS0 : Hid (HlSt W4 g x0 ds r) := Lib.hid ⟨hs0, hOk, hds, hr, by rw [hPe, hQe]; exact good_nil _ _⟩
     have hn12 : n ≤ 12 := by
      have h := HFWE.out
      unfold fewA at h
      rw [Bool.and_eq_true, decide_eq_true_eq] at h
      have h2 := HXS.out.1.1
      omega
     clear hge hSt hOk hds hr hPe hQe hb4 hs0 HNW m0 m1 m2 m3 ml HP3 hsn
     go_wp2_with fail
     go_loopg [9, 10] n (fun q bv i wr => ∃ (k : Nat) (x : StS) (bk : Int), q + k = n ∧ bv = .int .i64 bk ∧ i = .int .i64 k ∧ HlSt wr g x ds r ∧ (bk ≠ 0 → kindF ds x.P x.Q L = bk) ∧ Hp w w wr [.blk p3 29 [.slice s.ad s.nd s.cd, .slice s.rs.a0 s.rs.n0 s.rs.c0, .slice s.rs.a1 s.rs.n1 s.rs.c1, .slice s.rs.a2 s.rs.n2 s.rs.c2], .blk g 110 x.cells] [])
     case atStart => exact ⟨0, x0, 0, rfl, rfl, rfl, HS0.out, fun h => absurd rfl h, HP4.out⟩
     case round =>
      clear HS0 HP4
      obtain ⟨k, x, bk, hk, rfl, rfl, hS, hbk, hP⟩ := hrel
      have HS := Lib.hid hS
      have HP := Lib.hid hP
      have HBK := Lib.hid hbk
      have HGD := Lib.hid hS.good
      have HGD := Lib.hid hS.good
      cases gk with
      | succ q =>
       have hlt : k < n := by omega
       have HQK : Hid (q + (k + 1) = n) := Lib.hid (by omega)
       have j0 : (k : Int) < (n : Int) := by omega
       obtain ⟨a, ha⟩ : ∃ a, xs[k]? = some a := ⟨_, List.getElem?_eq_getElem (by rw [HXS.out.1.1]; exact hlt)⟩
       have ham := List.mem_of_getElem? ha
       have hsm : actSm a = true := by
        have h := HFWE.out
        unfold fewA at h
        rw [Bool.and_eq_true, List.all_eq_true] at h
        exact h.2 a ham
       have HAL := Lib.hid (fun (W : World) (hb : Below w.heap.size w W) => Acd.lem ((HXS.out.2.1 a ham).keep hb) hsm)
       have HAP := Lib.hid (fun (W : World) (hb : Below w.heap.size w W) => Acd.prf ((HXS.out.2.1 a ham).keep hb) hsm)
       have HAT := Lib.hid (fun (W : World) (hb : Below w.heap.size w W) => ((HXS.out.2.1 a ham).keep hb).t)
       have HLC : Hid (a.pr.ln ≤ a.pr.lc) := Lib.hid (HXS.out.2.1 a ham).lc
       have htn := Acd.tn_le hsm
       obtain ⟨b, off, rfl, hbl, hc⟩ := (HXS.out.1.keep hP.below).2 (by omega)
       have HCL := Lib.hid (fun (W : World) (hb : Below w.heap.size w W) => (by
        obtain ⟨b', off', e', hbl', hc'⟩ := (HXS.out.1.keep hb).2 (by omega)
        injection e' with e'
        injection e' with e1 e2
        subst e1 e2
        exact ⟨hc' k a ha 0 (by decide), hc' k a ha 2 (by decide), hc' k a ha 3 (by decide), hc' k a ha 4 (by decide), hbl'⟩ : W.cell? ⟨b, off + k * 5, none⟩ = some (.int .i64 a.kind) ∧ W.cell? ⟨b, off + k * 5 + 2, none⟩ = some (.slice a.pr.sa a.pr.sn a.pr.sc) ∧ W.cell? ⟨b, off + k * 5 + 2 + 1, none⟩ = some (.slice a.pr.la a.pr.ln a.pr.lc) ∧ W.cell? ⟨b, off + k * 5 + 4, none⟩ = some (.slice a.ta a.tn a.tc) ∧ b < W.heap.size))
       have y0 : wr.cell? ⟨b, off + k * 5, none⟩ = some (.int .i64 a.kind) := hc k a ha 0 (by decide)
       have y1 : wr.cell? ⟨b, off + k * 5 + 1, none⟩ = some (.slice a.ch.adr a.ch.len a.ch.cap) := hc k a ha 1 (by decide)
       have HPK := Lib.hid (pack_any g (kd g) g x a.ch.adr a.ch.len a.ch.cap wr a.ch.chs hS.at_ hS.ok (fun k hk => Nat.lt_of_lt_of_le hS.at_.blk.lt hk) hS.at_.hdl (HAL.out wr hP.below).2 (HAL.out wr hP.below).rowS)
       clear ha ham hsm hc hS hP hbk hk
       obtain ⟨kd0, hkd⟩ : ∃ z, z = a.kind := ⟨_, rfl⟩
       rw [← hkd] at y0 HCL
       clear hkd
       go_upto_if 56 with fail
       go_cut [] from 51 to 64 (fun wx => ∃ x5 : StS, HlSt wx g x5 ds r ∧ (Knows x.P x5.P ∧ KnowsQ x.Q x5.Q) ∧ Hp w w wx [.blk p3 29 [.slice s.ad s.nd s.cd, .slice s.rs.a0 s.rs.n0 s.rs.c0, .slice s.rs.a1 s.rs.n1 s.rs.c1, .slice s.rs.a2 s.rs.n2 s.rs.c2], .blk g 110 x5.cells] [])
       case first =>
        by_cases h0 : kd0 = 0
        ·have d0 : (kd0 == 0) = true := by simp [h0]
         clear h0
         go_wp2_with fail
         refine HPK.out.mono ?_
         rintro e W6 hpost
         obtain ⟨x6, rfl, hS6, hk1, hk2, hg6⟩ := hl_pack HVP.out HS.out hpost
         have HP6 := Lib.hid (HP.out.upd 1 (e' := .blk g 110 x6.cells) rfl hg6 hS6.at_.blk (fun _ h => .inl h))
         have HS6 := Lib.hid hS6
         have HK6 := Lib.hid (And.intro hk1 hk2)
         clear hS6 hk1 hk2 hg6 hpost HPK y0 y1 HP HS
         go_wp2_with fail
         go_meet
         exact ⟨x6, HS6.out, HK6.out, HP6.out⟩
        ·have d0 : (kd0 == 0) = false := by simpa using h0
         clear h0
         go_wp2_with fail
         go_meet
         exact ⟨x, HS.out, knows_refl x.P x.Q, HP.out⟩
       case rest =>
        obtain ⟨x5, hS5, hK5, hP5⟩ := hcut
        obtain ⟨W5, rfl⟩ : ∃ W5 : World, W5 = wc := ⟨_, rfl⟩
        have HP5 := Lib.hid hP5
        have HS5 := Lib.hid hS5
        have HK5 := Lib.hid hK5
        obtain ⟨z0, z2, z3, z4, zl⟩ := HCL.out W5 hP5.below
        have m0 := HP5.out.c 0 0 rfl rfl
        have m1 := HP5.out.c 0 1 rfl rfl
        have m2 := HP5.out.c 0 2 rfl rfl
        have m3 := HP5.out.c 0 3 rfl rfl
        have ml := HP5.out.lt 0 rfl
        clear hS5 hK5 hP5 y0 y1 HPK HP HS
        go_upto_region 12 with fail
        go_cut [79] from 64 to 80 (fun s79 wx => ∃ b : Bool, s79 = .bool b ∧ (b = true → chkF ds r a.pr.say = 0) ∧ Below W5.heap.size W5 wx)
        case first =>
         by_cases h1 : kd0 = 1
         ·have d1 : (kd0 == 1) = true := by simp [h1]
          have hck := rcheck_any s a.pr W5.drew ds r HVP.out (HPB.out W5.drew HP5.out.below.drew) HND.out (HAP.out W5.drew HP5.out.below.drew) HLC.out
          unfold PrbS.val Prf.val Prf.v1 Prf.v2 at hck
          have HCK := Lib.hid hck
          clear h1 hck
          obtain ⟨cv, hcv⟩ : ∃ cv, cv = chkF ds r a.pr.say := ⟨_, rfl⟩
          rw [← hcv] at HCK
          have HCV := Lib.hid hcv
          clear hcv
          refine Lx.region (C := fun _ => True) (hs := []) (by kernel_rfl) (by kernel_rfl) trivial ?_
          repeat' (first | ((first | refine Lx.ln (fun K hK => ?_) | (first | (refine Lx.lp (v := ?_) ?_ (fun K hK => ?_); rotate_left 1; intro w' hCw; try dsimp only at hCw) | (refine Lx.lr (v := ?_) ?_ (fun K hK => ?_); rotate_left 1)); go_simp; first | done | with_reducible rfl); go_simp; refine hK _ ?_; clear hK K) | (refine Lx.le (fun K hK => ?_); go_simp; (first | (go_at_call 13; refine HCK.out.mono ?_; rintro e W7 ⟨rfl, hb7⟩; have HB7 := Lib.hid ((Below.refl W5.heap.size W5).drew.trans hb7); clear hb7) | skip); refine hK _ _ (trivial) ?_; clear hK K) | (refine Lx.lex_cases rfl rfl rfl (fun hgd K hK => ?_) (fun hgd K hK => ?_) <;> (try simp only [decide_eq_true_eq, decide_eq_false_iff_not] at hgd) <;> (first | (exfalso; omega) | (go_simp; refine hK _ ?_; clear hK K))))
          all_goals (refine Lx.lex_nil ?_)
          go_wp2_with fail
          go_meet
          exact ⟨cv == 0, rfl, fun h => by rw [← HCV.out]; simpa using h, HB7.out⟩
         ·have d1 : (kd0 == 1) = false := by simpa using h1
          clear h1
          refine Lx.region (C := fun _ => True) (hs := []) (by kernel_rfl) (by kernel_rfl) trivial ?_
          repeat' (first | ((first | refine Lx.ln (fun K hK => ?_) | (first | (refine Lx.lp (v := ?_) ?_ (fun K hK => ?_); rotate_left 1; intro w' hCw; try dsimp only at hCw) | (refine Lx.lr (v := ?_) ?_ (fun K hK => ?_); rotate_left 1)); go_simp; first | done | with_reducible rfl); go_simp; refine hK _ ?_; clear hK K) | (refine Lx.le (fun K hK => ?_); go_simp; (first | fail | skip); refine hK _ _ (trivial) ?_; clear hK K) | (refine Lx.lex_cases rfl rfl rfl (fun hgd K hK => ?_) (fun hgd K hK => ?_) <;> (try simp only [decide_eq_true_eq, decide_eq_false_iff_not] at hgd) <;> (first | (exfalso; omega) | (go_simp; refine hK _ ?_; clear hK K))))
          all_goals (refine Lx.lex_nil ?_)
          go_wp2_with fail
          go_meet
          exact ⟨false, rfl, fun h => (by cases h), (Below.refl W5.heap.size W5).drew⟩
        case rest =>
         obtain ⟨bb, rfl, hbb, hb56⟩ := hcut
         obtain ⟨W6, rfl⟩ : ∃ W6 : World, W6 = wc := ⟨_, rfl⟩
         have HP6 := Lib.hid (HP5.out.keep hb56)
         have HS6 := Lib.hid (HS5.out.keep hb56)
         have HBB := Lib.hid hbb
         clear hbb hb56 HP5 HS5 z0 z2 z3 z4 zl m0 m1 m2 m3 ml
         obtain ⟨z0, z2, z3, z4, zl⟩ := HCL.out W6 HP6.out.below
         go_upto_if 79 with fail
         go_cut [] from 80 to 87 (fun wx => ∃ x6 : StS, HlSt wx g x6 ds r ∧ (Knows x.P x6.P ∧ KnowsQ x.Q x6.Q) ∧ Hp w w wx [.blk p3 29 [.slice s.ad s.nd s.cd, .slice s.rs.a0 s.rs.n0 s.rs.c0, .slice s.rs.a1 s.rs.n1 s.rs.c1, .slice s.rs.a2 s.rs.n2 s.rs.c2], .blk g 110 x6.cells] [])
         case first =>
          cases bb with
          | true =>
           have hRF := refute_any g (kd g) g x5 a.pr W6 HS6.out.at_ HS6.out.ok (fun k hk => Nat.lt_of_lt_of_le HS6.out.at_.blk.lt hk) (HAP.out W6 HP6.out.below)
           unfold Prf.val Prf.v1 Prf.v2 at hRF
           have HRF := Lib.hid hRF
           clear hRF
           go_wp2_with fail
           refine HRF.out.mono ?_
           rintro e W7 hpost
           obtain ⟨x7, rfl, hS7, hk1, hk2, hg7⟩ := hl_refute HS6.out (HBB.out (by first | exact rfl | exact trivial)) hpost
           have HP7 := Lib.hid (HP6.out.upd 1 (e' := .blk g 110 x7.cells) rfl hg7 hS7.at_.blk (fun _ h => .inl h))
           have HS7 := Lib.hid hS7
           have HK7 := Lib.hid (And.intro hk1 hk2)
           clear hS7 hk1 hk2 hg7 hpost HRF z0 z2 z3 z4 zl HP6 HS6
           go_wp2_with fail
           go_meet
           exact ⟨x7, HS7.out, knows_trans HK5.out HK7.out, HP7.out⟩
          | false =>
           go_wp2_with fail
           go_meet
           exact ⟨x5, HS6.out, HK5.out, HP6.out⟩
         case rest =>
          obtain ⟨x6, hS6, hK6, hP6⟩ := hcut
          obtain ⟨W8, rfl⟩ : ∃ W8 : World, W8 = wc := ⟨_, rfl⟩
          clear HP6 HS6 HBB HK5 z0 z2 z3 z4 zl
          have HP6 := Lib.hid hP6
          have HS6 := Lib.hid hS6
          have HK6 := Lib.hid hK6
          clear hS6 hK6 hP6
          have HLK := Lib.hid (hl_lookup HS6.out a.ta a.tn a.tc a.ts (by omega) (HAT.out W8 HP6.out.below))
          obtain ⟨⟨R1, N1⟩, hR1⟩ : ∃ R, R = lkF ds x6.P x6.Q a.ts := ⟨_, rfl⟩
          obtain ⟨⟨R2, N2⟩, hR2⟩ : ∃ R, R = lkF ds x6.P x6.Q L := ⟨_, rfl⟩
          have HLM := Lib.hid (fun (W : World) (hS : HlSt W g x6 ds r) (hb : Below w.heap.size w W) => hl_lookup hS SA sn sc L (by omega) (HTL.out W hb))
          rw [← hR1] at HLK
          rw [← hR2] at HLM
          have HL1 := Lib.hid hR1
          have HL2 := Lib.hid hR2
          obtain ⟨z0, z2', z3, z4, zl⟩ := HCL.out W8 HP6.out.below
          unfold LkA at HLK HLM
          dsimp only at HLK HLM
          clear hR1 hR2
          go_wp2_with fail
          refine HLK.out.mono ?_
          rintro e WA ⟨o1, z1, rfl, hy1, ha1, hc1, hbA⟩
          obtain ⟨p11, hp11⟩ : ∃ q, q = WA.heap.size := ⟨_, rfl⟩
          obtain ⟨WB, hWB⟩ : ∃ V, V = WA.alloc (.cells #[.int .i64 R1.1, .slice o1.adr o1.len o1.cap, .slice z1.sa z1.sn z1.sc, .slice z1.la z1.ln z1.lc, .int .i64 0] 51) := ⟨_, rfl⟩
          have hPB := (HP6.out.keep hbA).alloc [.int .i64 R1.1, .slice o1.adr o1.len o1.cap, .slice z1.sa z1.sn z1.sc, .slice z1.la z1.ln z1.lc, .int .i64 0] 51
          rw [show ([.int .i64 R1.1, .slice o1.adr o1.len o1.cap, .slice z1.sa z1.sn z1.sc, .slice z1.la z1.ln z1.lc, .int .i64 0] : List Value).toArray = #[.int .i64 R1.1, .slice o1.adr o1.len o1.cap, .slice z1.sa z1.sn z1.sc, .slice z1.la z1.ln z1.lc, .int .i64 0] from rfl, ← hWB, ← hp11] at hPB
          have hbAB : Below WA.heap.size WA WB := by rw [hWB]; exact (Below.refl _ _).alloc (Nat.le_refl _) _
          have HPBB := Lib.hid hPB
          have HSB := Lib.hid ((HS6.out.keep hbA).keep hbAB)
          have HAB : Hid ((⟨R1.1, o1, z1, 0⟩ : Ans).At WB) := Lib.hid ⟨ha1.1.keep hbAB, ha1.2.keep hbAB⟩
          have HC1 := Lib.hid hc1
          have HY1 : Hid ((⟨R1.1, o1, z1, 0⟩ : Ans).say = R1) := Lib.hid hy1
          have HLN := Lib.hid (HLM.out WB HSB.out hPB.below)
          clear hy1 ha1 hc1 hbA hPB hbAB HLK HLM HP6 HS6 z0 z2' z3 z4 zl
          go_upto_region 15 with fail
          rw [← hWB, ← hp11]
          clear hWB hp11
          go_wp2_with fail
          refine HLN.out.mono ?_
          rintro e WC ⟨o2, z2, rfl, hy2, ha2, hc2, hbC⟩
          obtain ⟨p13, hp13⟩ : ∃ q, q = WC.heap.size := ⟨_, rfl⟩
          obtain ⟨W9, hW9⟩ : ∃ V, V = WC.alloc (.cells #[.int .i64 R2.1, .slice o2.adr o2.len o2.cap, .slice z2.sa z2.sn z2.sc, .slice z2.la z2.ln z2.lc, .int .i64 0] 51) := ⟨_, rfl⟩
          have hPC := (HPBB.out.keep hbC).alloc [.int .i64 R2.1, .slice o2.adr o2.len o2.cap, .slice z2.sa z2.sn z2.sc, .slice z2.la z2.ln z2.lc, .int .i64 0] 51
          rw [show ([.int .i64 R2.1, .slice o2.adr o2.len o2.cap, .slice z2.sa z2.sn z2.sc, .slice z2.la z2.ln z2.lc, .int .i64 0] : List Value).toArray = #[.int .i64 R2.1, .slice o2.adr o2.len o2.cap, .slice z2.sa z2.sn z2.sc, .slice z2.la z2.ln z2.lc, .int .i64 0] from rfl, ← hW9, ← hp13] at hPC
          have hbC9 : Below WC.heap.size WC W9 := by rw [hW9]; exact (Below.refl _ _).alloc (Nat.le_refl _) _
          have HP9 := Lib.hid hPC
          have HS9 := Lib.hid ((HSB.out.keep hbC).keep hbC9)
          have HA1 : Hid ((⟨R1.1, o1, z1, 0⟩ : Ans).At W9) := Lib.hid ⟨(HAB.out.1.keep hbC).keep hbC9, (HAB.out.2.keep hbC).keep hbC9⟩
          have HA2 : Hid ((⟨R2.1, o2, z2, 0⟩ : Ans).At W9) := Lib.hid ⟨ha2.1.keep hbC9, ha2.2.keep hbC9⟩
          have HC2 := Lib.hid hc2
          have HY2 : Hid ((⟨R2.1, o2, z2, 0⟩ : Ans).say = R2) := Lib.hid hy2
          have HDR := Lib.hid ((Below.refl W9.heap.size W9).drew)
          have HKD : Hid (kindF ds x6.P x6.Q L = R2.1) := Lib.hid (by unfold kindF; rw [← HL2.out])
          have HKS : Hid (bk ≠ 0 → R2.1 = bk) := Lib.hid (fun h => by rw [← HKD.out, kind_stays HGD.out HS9.out.good HK6.out.1 HK6.out.2 (by rw [HBK.out h]; exact h)]; exact HBK.out h)
          clear hy2 ha2 hc2 hbC hPC hbC9 HLN HPBB HSB HAB HK6
          go_upto_region 16 with fail
          rw [← hW9, ← hp13]
          clear hW9 hp13
          obtain ⟨z0, z2', z3, z4, zl⟩ := HCL.out W9 HP9.out.below
          have m0 := HP9.out.c 0 0 rfl rfl
          have m1 := HP9.out.c 0 1 rfl rfl
          have m2 := HP9.out.c 0 2 rfl rfl
          have m3 := HP9.out.c 0 3 rfl rfl
          have ml := HP9.out.lt 0 rfl
          have n0 := HP9.out.c 2 0 rfl rfl
          have n1 := HP9.out.c 2 1 rfl rfl
          have n2 := HP9.out.c 2 2 rfl rfl
          have n3 := HP9.out.c 2 3 rfl rfl
          have n4 := HP9.out.c 2 4 rfl rfl
          have nl := HP9.out.lt 2 rfl
          have v0 := HP9.out.c 3 0 rfl rfl
          have v1 := HP9.out.c 3 1 rfl rfl
          have v2 := HP9.out.c 3 2 rfl rfl
          have v3 := HP9.out.c 3 3 rfl rfl
          have v4 := HP9.out.c 3 4 rfl rfl
          have vl := HP9.out.lt 3 rfl
          by_cases hn1 : N1 = 0
          ·have e1 : (N1 == 0) = true := by simp [hn1]
           have hr1 := right_any s a.ta a.tn a.tc ⟨R1.1, o1, z1, 0⟩ W9.drew ds r a.ts x6.P x6.Q HVP.out (HPB.out _ HP9.out.below.drew) HND.out (HAT.out _ HP9.out.below.drew) (by omega) (⟨HA1.out.1.keep HDR.out, HA1.out.2.keep HDR.out⟩ : (⟨R1.1, o1, z1, 0⟩ : Ans).At W9.drew) HC1.out HS9.out.good rfl (by rw [← HL1.out]; exact hn1) (by rw [← HL1.out]; exact HY1.out)
           unfold PrbS.val Ans.val at hr1
           dsimp only at hr1
           have HR1 := Lib.hid hr1
           clear hr1 hn1
           by_cases hn2 : N2 = 0
           ·have e2 : (N2 == 0) = true := by simp [hn2]
            have hr2 := fun (W : World) (hb : Below W9.heap.size W9 W) => right_any s SA sn sc ⟨R2.1, o2, z2, 0⟩ W ds r L x6.P x6.Q HVP.out (HPB.out W (HP9.out.keep hb).below) HND.out (HTL.out W (HP9.out.keep hb).below) (by omega) (⟨HA2.out.1.keep hb, HA2.out.2.keep hb⟩ : (⟨R2.1, o2, z2, 0⟩ : Ans).At W) HC2.out HS9.out.good rfl (by rw [← HL2.out]; exact hn2) (by rw [← HL2.out]; exact HY2.out)
            unfold PrbS.val Ans.val at hr2
            dsimp only at hr2
            have HR2 := Lib.hid hr2
            clear hr2 hn2
            by_cases hb0 : bk = 0
            ·have d3 : (bk != 0) = false := by simp [hb0]
             clear hb0
             go_wp2_with fail
             refine Lx.region (C := fun _ => True) (hs := []) (by kernel_rfl) (by kernel_rfl) trivial ?_
             repeat' (first | ((first | refine Lx.ln (fun K hK => ?_) | (first | (refine Lx.lp (v := ?_) ?_ (fun K hK => ?_); rotate_left 1; intro w' hCw; try dsimp only at hCw) | (refine Lx.lr (v := ?_) ?_ (fun K hK => ?_); rotate_left 1)); go_simp; first | done | with_reducible rfl); go_simp; refine hK _ ?_; clear hK K) | (refine Lx.le (fun K hK => ?_); go_simp; (first | (go_at_call_of 16 (Value.slice a.ta a.tn a.tc); refine HR1.out.mono ?_; rintro e W7 ⟨rfl, hb7⟩; have HB7 := Lib.hid (HDR.out.trans (hb7.mono HDR.out.size)); clear hb7; have hp7 := HP9.out.keep HB7.out; have a0 := hp7.c 0 0 rfl rfl; have a1 := hp7.c 0 1 rfl rfl; have a2 := hp7.c 0 2 rfl rfl; have a3 := hp7.c 0 3 rfl rfl; have al := hp7.lt 0 rfl; have b0 := hp7.c 3 0 rfl rfl; have b1 := hp7.c 3 1 rfl rfl; have b2 := hp7.c 3 2 rfl rfl; have b3 := hp7.c 3 3 rfl rfl; have b4 := hp7.c 3 4 rfl rfl; have bl := hp7.lt 3 rfl; clear hp7) | (go_at_call_of 16 (Value.slice SA sn sc); refine (HR2.out _ HB7.out).mono ?_; rintro e W8 ⟨rfl, hb8⟩; have HB8 := Lib.hid (HB7.out.trans (hb8.mono HB7.out.size)); clear hb8; have hp8 := HP9.out.keep HB8.out; have u0 := hp8.c 3 0 rfl rfl; have u1 := hp8.c 3 1 rfl rfl; have u2 := hp8.c 3 2 rfl rfl; have u3 := hp8.c 3 3 rfl rfl; have u4 := hp8.c 3 4 rfl rfl; have ul := hp8.lt 3 rfl; clear hp8) | skip); refine hK _ _ (trivial) ?_; clear hK K) | (refine Lx.lex_cases rfl rfl rfl (fun hgd K hK => ?_) (fun hgd K hK => ?_) <;> (try simp only [decide_eq_true_eq, decide_eq_false_iff_not] at hgd) <;> (first | (exfalso; omega) | (go_simp; refine hK _ ?_; clear hK K))))
             all_goals (refine Lx.lex_nil ?_)
             go_wp2_with fail
             go_roundg q
             case measure => omega
             case rel => exact ⟨k + 1, x6, R2.1, HQK.out, rfl, by go_num, HS9.out.keep HB8.out, fun _ => HKD.out, (HP9.out.keep HB8.out).sub (List.Sublist.cons_cons _ (List.Sublist.cons_cons _ (List.nil_sublist _)))⟩
            ·have d3 : (bk != 0) = true := by simpa using hb0
             have d4 : (R2.1 != bk) = false := by
              have h := HKS.out hb0
              simp [h]
             clear hb0
             go_wp2_with fail
             refine Lx.region (C := fun _ => True) (hs := []) (by kernel_rfl) (by kernel_rfl) trivial ?_
             repeat' (first | ((first | refine Lx.ln (fun K hK => ?_) | (first | (refine Lx.lp (v := ?_) ?_ (fun K hK => ?_); rotate_left 1; intro w' hCw; try dsimp only at hCw) | (refine Lx.lr (v := ?_) ?_ (fun K hK => ?_); rotate_left 1)); go_simp; first | done | with_reducible rfl); go_simp; refine hK _ ?_; clear hK K) | (refine Lx.le (fun K hK => ?_); go_simp; (first | (go_at_call_of 16 (Value.slice a.ta a.tn a.tc); refine HR1.out.mono ?_; rintro e W7 ⟨rfl, hb7⟩; have HB7 := Lib.hid (HDR.out.trans (hb7.mono HDR.out.size)); clear hb7; have hp7 := HP9.out.keep HB7.out; have a0 := hp7.c 0 0 rfl rfl; have a1 := hp7.c 0 1 rfl rfl; have a2 := hp7.c 0 2 rfl rfl; have a3 := hp7.c 0 3 rfl rfl; have al := hp7.lt 0 rfl; have b0 := hp7.c 3 0 rfl rfl; have b1 := hp7.c 3 1 rfl rfl; have b2 := hp7.c 3 2 rfl rfl; have b3 := hp7.c 3 3 rfl rfl; have b4 := hp7.c 3 4 rfl rfl; have bl := hp7.lt 3 rfl; clear hp7) | (go_at_call_of 16 (Value.slice SA sn sc); refine (HR2.out _ HB7.out).mono ?_; rintro e W8 ⟨rfl, hb8⟩; have HB8 := Lib.hid (HB7.out.trans (hb8.mono HB7.out.size)); clear hb8; have hp8 := HP9.out.keep HB8.out; have u0 := hp8.c 3 0 rfl rfl; have u1 := hp8.c 3 1 rfl rfl; have u2 := hp8.c 3 2 rfl rfl; have u3 := hp8.c 3 3 rfl rfl; have u4 := hp8.c 3 4 rfl rfl; have ul := hp8.lt 3 rfl; clear hp8) | skip); refine hK _ _ (trivial) ?_; clear hK K) | (refine Lx.lex_cases rfl rfl rfl (fun hgd K hK => ?_) (fun hgd K hK => ?_) <;> (try simp only [decide_eq_true_eq, decide_eq_false_iff_not] at hgd) <;> (first | (exfalso; omega) | (go_simp; refine hK _ ?_; clear hK K))))
             all_goals (refine Lx.lex_nil ?_)
             go_wp2_with fail
             go_roundg q
             case measure => omega
             case rel => exact ⟨k + 1, x6, R2.1, HQK.out, rfl, by go_num, HS9.out.keep HB8.out, fun _ => HKD.out, (HP9.out.keep HB8.out).sub (List.Sublist.cons_cons _ (List.Sublist.cons_cons _ (List.nil_sublist _)))⟩
           ·have e2 : (N2 == 0) = false := by simpa using hn2
            clear hn2
            by_cases hb0 : bk = 0
            ·have d3 : (bk != 0) = false := by simp [hb0]
             clear hb0
             go_wp2_with fail
             refine Lx.region (C := fun _ => True) (hs := []) (by kernel_rfl) (by kernel_rfl) trivial ?_
             repeat' (first | ((first | refine Lx.ln (fun K hK => ?_) | (first | (refine Lx.lp (v := ?_) ?_ (fun K hK => ?_); rotate_left 1; intro w' hCw; try dsimp only at hCw) | (refine Lx.lr (v := ?_) ?_ (fun K hK => ?_); rotate_left 1)); go_simp; first | done | with_reducible rfl); go_simp; refine hK _ ?_; clear hK K) | (refine Lx.le (fun K hK => ?_); go_simp; (first | (go_at_call_of 16 (Value.slice a.ta a.tn a.tc); refine HR1.out.mono ?_; rintro e W7 ⟨rfl, hb7⟩; have HB7 := Lib.hid (HDR.out.trans (hb7.mono HDR.out.size)); clear hb7; have hp7 := HP9.out.keep HB7.out; have a0 := hp7.c 0 0 rfl rfl; have a1 := hp7.c 0 1 rfl rfl; have a2 := hp7.c 0 2 rfl rfl; have a3 := hp7.c 0 3 rfl rfl; have al := hp7.lt 0 rfl; have b0 := hp7.c 3 0 rfl rfl; have b1 := hp7.c 3 1 rfl rfl; have b2 := hp7.c 3 2 rfl rfl; have b3 := hp7.c 3 3 rfl rfl; have b4 := hp7.c 3 4 rfl rfl; have bl := hp7.lt 3 rfl; clear hp7) | skip); refine hK _ _ (trivial) ?_; clear hK K) | (refine Lx.lex_cases rfl rfl rfl (fun hgd K hK => ?_) (fun hgd K hK => ?_) <;> (try simp only [decide_eq_true_eq, decide_eq_false_iff_not] at hgd) <;> (first | (exfalso; omega) | (go_simp; refine hK _ ?_; clear hK K))))
             all_goals (refine Lx.lex_nil ?_)
             go_wp2_with fail
             go_roundg q
             case measure => omega
             case rel => exact ⟨k + 1, x6, R2.1, HQK.out, rfl, by go_num, HS9.out.keep HB7.out, fun _ => HKD.out, (HP9.out.keep HB7.out).sub (List.Sublist.cons_cons _ (List.Sublist.cons_cons _ (List.nil_sublist _)))⟩
            ·have d3 : (bk != 0) = true := by simpa using hb0
             have d4 : (R2.1 != bk) = false := by
              have h := HKS.out hb0
              simp [h]
             clear hb0
             go_wp2_with fail
             refine Lx.region (C := fun _ => True) (hs := []) (by kernel_rfl) (by kernel_rfl) trivial ?_
             repeat' (first | ((first | refine Lx.ln (fun K hK => ?_) | (first | (refine Lx.lp (v := ?_) ?_ (fun K hK => ?_); rotate_left 1; intro w' hCw; try dsimp only at hCw) | (refine Lx.lr (v := ?_) ?_ (fun K hK => ?_); rotate_left 1)); go_simp; first | done | with_reducible rfl); go_simp; refine hK _ ?_; clear hK K) | (refine Lx.le (fun K hK => ?_); go_simp; (first | (go_at_call_of 16 (Value.slice a.ta a.tn a.tc); refine HR1.out.mono ?_; rintro e W7 ⟨rfl, hb7⟩; have HB7 := Lib.hid (HDR.out.trans (hb7.mono HDR.out.size)); clear hb7; have hp7 := HP9.out.keep HB7.out; have a0 := hp7.c 0 0 rfl rfl; have a1 := hp7.c 0 1 rfl rfl; have a2 := hp7.c 0 2 rfl rfl; have a3 := hp7.c 0 3 rfl rfl; have al := hp7.lt 0 rfl; have b0 := hp7.c 3 0 rfl rfl; have b1 := hp7.c 3 1 rfl rfl; have b2 := hp7.c 3 2 rfl rfl; have b3 := hp7.c 3 3 rfl rfl; have b4 := hp7.c 3 4 rfl rfl; have bl := hp7.lt 3 rfl; clear hp7) | skip); refine hK _ _ (trivial) ?_; clear hK K) | (refine Lx.lex_cases rfl rfl rfl (fun hgd K hK => ?_) (fun hgd K hK => ?_) <;> (try simp only [decide_eq_true_eq, decide_eq_false_iff_not] at hgd) <;> (first | (exfalso; omega) | (go_simp; refine hK _ ?_; clear hK K))))
             all_goals (refine Lx.lex_nil ?_)
             go_wp2_with fail
             go_roundg q
             case measure => omega
             case rel => exact ⟨k + 1, x6, R2.1, HQK.out, rfl, by go_num, HS9.out.keep HB7.out, fun _ => HKD.out, (HP9.out.keep HB7.out).sub (List.Sublist.cons_cons _ (List.Sublist.cons_cons _ (List.nil_sublist _)))⟩
          ·have e1 : (N1 == 0) = false := by simpa using hn1
           clear hn1
           by_cases hn2 : N2 = 0
           ·have e2 : (N2 == 0) = true := by simp [hn2]
            have hr2 := fun (W : World) (hb : Below W9.heap.size W9 W) => right_any s SA sn sc ⟨R2.1, o2, z2, 0⟩ W ds r L x6.P x6.Q HVP.out (HPB.out W (HP9.out.keep hb).below) HND.out (HTL.out W (HP9.out.keep hb).below) (by omega) (⟨HA2.out.1.keep hb, HA2.out.2.keep hb⟩ : (⟨R2.1, o2, z2, 0⟩ : Ans).At W) HC2.out HS9.out.good rfl (by rw [← HL2.out]; exact hn2) (by rw [← HL2.out]; exact HY2.out)
            unfold PrbS.val Ans.val at hr2
            dsimp only at hr2
            have HR2 := Lib.hid hr2
            clear hr2 hn2
            by_cases hb0 : bk = 0
            ·have d3 : (bk != 0) = false := by simp [hb0]
             clear hb0
             go_wp2_with fail
             refine Lx.region (C := fun _ => True) (hs := []) (by kernel_rfl) (by kernel_rfl) trivial ?_
             repeat' (first | ((first | refine Lx.ln (fun K hK => ?_) | (first | (refine Lx.lp (v := ?_) ?_ (fun K hK => ?_); rotate_left 1; intro w' hCw; try dsimp only at hCw) | (refine Lx.lr (v := ?_) ?_ (fun K hK => ?_); rotate_left 1)); go_simp; first | done | with_reducible rfl); go_simp; refine hK _ ?_; clear hK K) | (refine Lx.le (fun K hK => ?_); go_simp; (first | (go_at_call_of 16 (Value.slice SA sn sc); refine (HR2.out _ HDR.out).mono ?_; rintro e W8 ⟨rfl, hb8⟩; have HB8 := Lib.hid (HDR.out.trans (hb8.mono HDR.out.size)); clear hb8; have hp8 := HP9.out.keep HB8.out; have u0 := hp8.c 3 0 rfl rfl; have u1 := hp8.c 3 1 rfl rfl; have u2 := hp8.c 3 2 rfl rfl; have u3 := hp8.c 3 3 rfl rfl; have u4 := hp8.c 3 4 rfl rfl; have ul := hp8.lt 3 rfl; clear hp8) | skip); refine hK _ _ (trivial) ?_; clear hK K) | (refine Lx.lex_cases rfl rfl rfl (fun hgd K hK => ?_) (fun hgd K hK => ?_) <;> (try simp only [decide_eq_true_eq, decide_eq_false_iff_not] at hgd) <;> (first | (exfalso; omega) | (go_simp; refine hK _ ?_; clear hK K))))
             all_goals (refine Lx.lex_nil ?_)
             go_wp2_with fail
             go_roundg q
             case measure => omega
             case rel => exact ⟨k + 1, x6, R2.1, HQK.out, rfl, by go_num, HS9.out.keep HB8.out, fun _ => HKD.out, (HP9.out.keep HB8.out).sub (List.Sublist.cons_cons _ (List.Sublist.cons_cons _ (List.nil_sublist _)))⟩
            ·have d3 : (bk != 0) = true := by simpa using hb0
             have d4 : (R2.1 != bk) = false := by
              have h := HKS.out hb0
              simp [h]
             clear hb0
             go_wp2_with fail
             refine Lx.region (C := fun _ => True) (hs := []) (by kernel_rfl) (by kernel_rfl) trivial ?_
             repeat' (first | ((first | refine Lx.ln (fun K hK => ?_) | (first | (refine Lx.lp (v := ?_) ?_ (fun K hK => ?_); rotate_left 1; intro w' hCw; try dsimp only at hCw) | (refine Lx.lr (v := ?_) ?_ (fun K hK => ?_); rotate_left 1)); go_simp; first | done | with_reducible rfl); go_simp; refine hK _ ?_; clear hK K) | (refine Lx.le (fun K hK => ?_); go_simp; (first | (go_at_call_of 16 (Value.slice SA sn sc); refine (HR2.out _ HDR.out).mono ?_; rintro e W8 ⟨rfl, hb8⟩; have HB8 := Lib.hid (HDR.out.trans (hb8.mono HDR.out.size)); clear hb8; have hp8 := HP9.out.keep HB8.out; have u0 := hp8.c 3 0 rfl rfl; have u1 := hp8.c 3 1 rfl rfl; have u2 := hp8.c 3 2 rfl rfl; have u3 := hp8.c 3 3 rfl rfl; have u4 := hp8.c 3 4 rfl rfl; have ul := hp8.lt 3 rfl; clear hp8) | skip); refine hK _ _ (trivial) ?_; clear hK K) | (refine Lx.lex_cases rfl rfl rfl (fun hgd K hK => ?_) (fun hgd K hK => ?_) <;> (try simp only [decide_eq_true_eq, decide_eq_false_iff_not] at hgd) <;> (first | (exfalso; omega) | (go_simp; refine hK _ ?_; clear hK K))))
             all_goals (refine Lx.lex_nil ?_)
             go_wp2_with fail
             go_roundg q
             case measure => omega
             case rel => exact ⟨k + 1, x6, R2.1, HQK.out, rfl, by go_num, HS9.out.keep HB8.out, fun _ => HKD.out, (HP9.out.keep HB8.out).sub (List.Sublist.cons_cons _ (List.Sublist.cons_cons _ (List.nil_sublist _)))⟩
           ·have e2 : (N2 == 0) = false := by simpa using hn2
            clear hn2
            by_cases hb0 : bk = 0
            ·have d3 : (bk != 0) = false := by simp [hb0]
             clear hb0
             go_wp2_with fail
             refine Lx.region (C := fun _ => True) (hs := []) (by kernel_rfl) (by kernel_rfl) trivial ?_
             repeat' (first | ((first | refine Lx.ln (fun K hK => ?_) | (first | (refine Lx.lp (v := ?_) ?_ (fun K hK => ?_); rotate_left 1; intro w' hCw; try dsimp only at hCw) | (refine Lx.lr (v := ?_) ?_ (fun K hK => ?_); rotate_left 1)); go_simp; first | done | with_reducible rfl); go_simp; refine hK _ ?_; clear hK K) | (refine Lx.le (fun K hK => ?_); go_simp; (first | fail | skip); refine hK _ _ (trivial) ?_; clear hK K) | (refine Lx.lex_cases rfl rfl rfl (fun hgd K hK => ?_) (fun hgd K hK => ?_) <;> (try simp only [decide_eq_true_eq, decide_eq_false_iff_not] at hgd) <;> (first | (exfalso; omega) | (go_simp; refine hK _ ?_; clear hK K))))
             all_goals (refine Lx.lex_nil ?_)
             go_wp2_with fail
             go_roundg q
             case measure => omega
             case rel => exact ⟨k + 1, x6, R2.1, HQK.out, rfl, by go_num, HS9.out.keep HDR.out, fun _ => HKD.out, (HP9.out.keep HDR.out).sub (List.Sublist.cons_cons _ (List.Sublist.cons_cons _ (List.nil_sublist _)))⟩
            ·have d3 : (bk != 0) = true := by simpa using hb0
             have d4 : (R2.1 != bk) = false := by
              have h := HKS.out hb0
              simp [h]
             clear hb0
             go_wp2_with fail
             refine Lx.region (C := fun _ => True) (hs := []) (by kernel_rfl) (by kernel_rfl) trivial ?_
             repeat' (first | ((first | refine Lx.ln (fun K hK => ?_) | (first | (refine Lx.lp (v := ?_) ?_ (fun K hK => ?_); rotate_left 1; intro w' hCw; try dsimp only at hCw) | (refine Lx.lr (v := ?_) ?_ (fun K hK => ?_); rotate_left 1)); go_simp; first | done | with_reducible rfl); go_simp; refine hK _ ?_; clear hK K) | (refine Lx.le (fun K hK => ?_); go_simp; (first | fail | skip); refine hK _ _ (trivial) ?_; clear hK K) | (refine Lx.lex_cases rfl rfl rfl (fun hgd K hK => ?_) (fun hgd K hK => ?_) <;> (try simp only [decide_eq_true_eq, decide_eq_false_iff_not] at hgd) <;> (first | (exfalso; omega) | (go_simp; refine hK _ ?_; clear hK K))))
             all_goals (refine Lx.lex_nil ?_)
             go_wp2_with fail
             go_roundg q
             case measure => omega
             case rel => exact ⟨k + 1, x6, R2.1, HQK.out, rfl, by go_num, HS9.out.keep HDR.out, fun _ => HKD.out, (HP9.out.keep HDR.out).sub (List.Sublist.cons_cons _ (List.Sublist.cons_cons _ (List.nil_sublist _)))⟩
      | zero =>
       obtain rfl : k = n := by omega
       have j0 : ¬ (k : Int) < (k : Int) := by omega
       clear hS hP hbk hk
       go_wp2_with fail
       refine (HKN.out _ HP.out.below).mono ?_
       rintro e WE ⟨rfl, hbE⟩
       have HB := Lib.hid (HP.out.keep hbE).below
       clear hbE
       go_wp2_with fail
       go_ret
       exact ⟨rfl, HB.out⟩
theorem containHolds_lifted (os : Os) (started : os.Started) (H : Type) (enc : TypeId × Value → H) :
  ReturnsInHanded {} Tryz.checked os 3 .any (fun w args => (Rows.containHoldsSpec.pre enc Tryz.prog Tryz.f3 [] false w args ∧ laidMetH Tryz.prog laid07 w) ∧ sizedMet enc Tryz.prog Tryz.f3 (OpenSpec.ofChange Rows.containHoldsSpec) false w args) (Rows.containHoldsSpec.post enc Tryz.prog Tryz.f3 false true false false) := by
 refine handed_laid (C := Tryz.checked) (laid := laid07) own started (by kernel_rfl) Tryz.func3
  (ChangeSpec.witness_shaped (enc := enc) (C := Tryz.checked) (os := os) (X := fun w _ => laidMetH Tryz.prog laid07 w) false (World.laidAll Tryz.prog os laid07) #[.agg #[.slice none 0 0, .slice none 0 0, .slice none 0 0, .slice none 0 0], .slice none 0 0, .slice none 0 0] 8 (World.laidAll_os _ _ _) (World.shaped_of_ZipB (by kernel_rfl) (by kernel_rfl)) (by kernel_rfl) (by kernel_rfl) (by kernel_rfl) (laidHold os _)) ?_
 intro W base args ds gs before hval0 hW hL hsh
 have hTab := tab_of hL hsh
 have hval : ∀ (j : Nat) t v, Tryz.f3.params[j]? = some t → args[j]? = some v → Value.okWide Tryz.prog W .any base t v := hval0
 have hW' := hW
 obtain ⟨p, q, hA0, hV, rfl, hfz, hnd⟩ := hW
 have hA : DataW.TrodAll enc Tryz.prog W 0 (fun _ => true) true Tryz.f3.params.toList args.toList ds p := hA0
 rw [Tryz.params3] at hA hval
 obtain ⟨v0, vs0, d0, ds0, p0, q0, hargs, rfl, rfl, h0, r0⟩ := trodAll_cons hA
 obtain ⟨v1, vs1, d1, ds1, p1, q1, rfl, rfl, rfl, h1, r1⟩ := trodAll_cons r0
 obtain ⟨v2, vs2, d2, ds2, p2, q2, rfl, rfl, rfl, h2, r2⟩ := trodAll_cons r1
 obtain ⟨rfl, rfl, rfl⟩ := trodAll_nil r2
 obtain rfl : args = #[v0, v1, v2] := by cases args; simp_all
 obtain ⟨rfl, rfl⟩ := trodVars_none hV
 have k0 := h0
 have lt0 : ∀ x ∈ p0, x.block < W.heap.size := by obtain ⟨m, hm⟩ := k0; exact DataW.trod_lt m _ _ _ hm
 have k1 := h1
 have lt1 : ∀ x ∈ p1, x.block < W.heap.size := by obtain ⟨m, hm⟩ := k1; exact DataW.trod_lt m _ _ _ hm
 have k2 := h2
 have lt2 : ∀ x ∈ p2, x.block < W.heap.size := by obtain ⟨m, hm⟩ := k2; exact DataW.trod_lt m _ _ _ hm
 obtain ⟨s0, ds0, x0, rfl, R0⟩ := arg_prb (hval 0 29 _ rfl rfl) h0
 obtain ⟨A1, n1, c1, xs1, rfl, R1⟩ := arg_acts (hval 1 30 _ rfl rfl) h1
 obtain ⟨A2, n2, c2, xs2, rfl, R2, b2, m2⟩ := arg_ints Tryz.underlying31 Tryz.underlying3 (by kernel_rfl) (hval 2 31 _ rfl rfl) h2
 clear hA0 hval0
 refine (containHolds_walk W hTab s0 ds0 x0 R0 A1 n1 c1 xs1 R1 A2 n2 c2 xs2 R2 b2 m2).mono fun e W' ⟨he, bel⟩ => ?_
 subst he
 exact ⟨_, rfl, _, _, _, [], _, [], hW', trodAll_mk1 (shut_bool Tryz.underlying4 _), (trodAll_cons_mk (Below.trod laidOut (by kernel_rfl) (of_decide_eq_true (by kernel_rfl)) k0 bel lt0) (trodAll_cons_mk (Below.trod laidOut (by kernel_rfl) (of_decide_eq_true (by kernel_rfl)) k1 bel lt1) (trodAll_cons_mk (Below.trod laidOut (by kernel_rfl) (of_decide_eq_true (by kernel_rfl)) k2 bel lt2) trodAll_mk0))), rfl, bel.frame _, fun h => by cases h⟩
theorem containHolds_over : Rows.containHoldsRow.holds Tryz.pinned (OpenSpec.ofChange Rows.containHoldsSpec) :=
 OpenClaim.holds_of_wide 3 Tryz.f3 rfl rfl rfl rfl rfl rfl rfl ⟨rfl, rfl, rfl, rfl, rfl⟩ rfl rfl rfl rfl rfl (by kernel_rfl) Tryz.func3 (by kernel_rfl)
  (of_decide_eq_true (by kernel_rfl)) (by unfold Func.isWrapper; first | (rw [if_pos (by decide +kernel)]; kernel_rfl) | (rw [if_neg (by decide +kernel)]; exact ⟨rfl, rfl⟩))
  (fun os started H enc _ => containHolds_lifted os started H enc)
theorem containHoldsCard_holds : Rows.ContainHoldsCardSaid :=
 Claim7.holds_tied_plain_at .later [] [.data] true (true, "6a1e8bf9da2a490e4a6c8e160f0563e6348fe16053a562f29b6eba6119d16f53") false
  containHolds_over (fun _ h => by cases h) (by kernel_rfl) (fun _ h => by cases h) containHolds_row_tie rfl ⟨rfl, rfl⟩ (by kernel_rfl) rfl
  (fun f fn hf hfn => by
   obtain rfl : f = 3 := Option.some.inj ((show Tryz.prog.funcNamed "bandplan/bandplanlaw24.ContainHolds" = some 3 by kernel_rfl).symm.trans hf) |>.symm
   obtain rfl : fn = Tryz.f3 := (Option.some.inj (Tryz.func3.symm.trans hfn)).symm
   exact ⟨by kernel_rfl, fun j t ht => by
    rw [Tryz.params3] at ht
    rcases j with _ | j
    ·obtain rfl : t = 29 := by simpa using ht.symm
     exact (show Tryz.prog.wantsStandIn 29 = false by kernel_rfl)
    rcases j with _ | j
    ·obtain rfl : t = 30 := by simpa using ht.symm
     exact (show Tryz.prog.wantsStandIn 30 = false by kernel_rfl)
    rcases j with _ | j
    ·obtain rfl : t = 31 := by simpa using ht.symm
     exact (show Tryz.prog.wantsStandIn 31 = false by kernel_rfl)
    ·simp at ht⟩)
  (by kernel_rfl)
#print axioms containHoldsCard_holds
end Go.Proofs.YtdpbbhbegehcjaaGreatDoor
